/- Sums and products may be turned about and put together otherwise: the law's walk, over what its calls come to; for all parts. -/
import Derived.Test.YtkjmnmcekhnkmaaGaussW
import Derived.Deep.DeepCutAuto
namespace Go.Proofs.Ytkjmnmcekhnkmaa
open Go.RowKit
set_option linter.unusedSimpArgs false
set_option linter.unusedVariables false

set_option maxRecDepth 100000 in
set_option maxHeartbeats 16000000 in
theorem ring_walk (a b c d e f A1 A2 C1 C2 B1 B2 D1 D2 L1 L2 R1 R2 M1 M2 U1 U2 V1 V2 W1 W2 X1 X2 Y1 Y2 : Int) (i k m n o s t u v q x y : Bool) (w : World)
    (E0 : addV a b c d = (A1, A2, i))
    (E1 : addV c d a b = (A1, A2, i))
    (E2 : mulV a b c d = (C1, C2, k))
    (E3 : mulV c d a b = (C1, C2, k))
    (E4 : subV A1 A2 c d = (B1, B2, m))
    (E5 : addV c d e f = (D1, D2, n))
    (E6 : addV A1 A2 e f = (L1, L2, o))
    (E7 : addV a b D1 D2 = (R1, R2, s))
    (E8 : mulV c d e f = (M1, M2, t))
    (E9 : mulV C1 C2 e f = (U1, U2, u))
    (E10 : mulV a b M1 M2 = (V1, V2, v))
    (E11 : mulV a b e f = (W1, W2, q))
    (E12 : mulV a b D1 D2 = (X1, X2, x))
    (E13 : addV C1 C2 W1 W2 = (Y1, Y2, y))
    (H1 : (mayB a b = true ∧ mayB c d = true) ∨ (i = false ∧ k = false))
    (H2 : i = true → m = true ∧ B1 = a ∧ B2 = b) (H3 : i = true → n = true → o = true → s = true → L1 = R1 ∧ L2 = R2)
    (H4 : k = true → t = true → u = true → v = true → U1 = V1 ∧ U2 = V2) (H5 : n = true → k = true → q = true → x = y ∧ X1 = Y1 ∧ X2 = Y2) :
    Calls Try.prog 9 #[.agg #[.int .i64 a, .int .i64 b], .agg #[.int .i64 c, .int .i64 d], .agg #[.int .i64 e, .int .i64 f]] w fun e w' => e = .returned (.bool true) ∧ Below w.heap.size w w' := by
  have K0 : Hid (∀ w, Calls Try.prog 26 #[.agg #[.int .i64 a, .int .i64 b], .agg #[.int .i64 c, .int .i64 d]] w fun e w' => e = .returned (.tuple #[.agg #[.int .i64 A1, .int .i64 A2], .bool i]) ∧ Below w.heap.size w w') := by
    apply Lib.hid; intro w; have h := add_any a b c d w; rw [E0] at h; exact h
  have K1 : Hid (∀ w, Calls Try.prog 26 #[.agg #[.int .i64 c, .int .i64 d], .agg #[.int .i64 a, .int .i64 b]] w fun e w' => e = .returned (.tuple #[.agg #[.int .i64 A1, .int .i64 A2], .bool i]) ∧ Below w.heap.size w w') := by
    apply Lib.hid; intro w; have h := add_any c d a b w; rw [E1] at h; exact h
  have K2 : Hid (∀ w, Calls Try.prog 22 #[.agg #[.int .i64 a, .int .i64 b], .agg #[.int .i64 c, .int .i64 d]] w fun e w' => e = .returned (.tuple #[.agg #[.int .i64 C1, .int .i64 C2], .bool k]) ∧ Below w.heap.size w w') := by
    apply Lib.hid; intro w; have h := prod_any a b c d w; rw [E2] at h; exact h
  have K3 : Hid (∀ w, Calls Try.prog 22 #[.agg #[.int .i64 c, .int .i64 d], .agg #[.int .i64 a, .int .i64 b]] w fun e w' => e = .returned (.tuple #[.agg #[.int .i64 C1, .int .i64 C2], .bool k]) ∧ Below w.heap.size w w') := by
    apply Lib.hid; intro w; have h := prod_any c d a b w; rw [E3] at h; exact h
  have K4 : Hid (∀ w, Calls Try.prog 28 #[.agg #[.int .i64 A1, .int .i64 A2], .agg #[.int .i64 c, .int .i64 d]] w fun e w' => e = .returned (.tuple #[.agg #[.int .i64 B1, .int .i64 B2], .bool m]) ∧ Below w.heap.size w w') := by
    apply Lib.hid; intro w; have h := sub_any A1 A2 c d w; rw [E4] at h; exact h
  have K5 : Hid (∀ w, Calls Try.prog 26 #[.agg #[.int .i64 c, .int .i64 d], .agg #[.int .i64 e, .int .i64 f]] w fun e w' => e = .returned (.tuple #[.agg #[.int .i64 D1, .int .i64 D2], .bool n]) ∧ Below w.heap.size w w') := by
    apply Lib.hid; intro w; have h := add_any c d e f w; rw [E5] at h; exact h
  have K6 : Hid (∀ w, Calls Try.prog 26 #[.agg #[.int .i64 A1, .int .i64 A2], .agg #[.int .i64 e, .int .i64 f]] w fun e w' => e = .returned (.tuple #[.agg #[.int .i64 L1, .int .i64 L2], .bool o]) ∧ Below w.heap.size w w') := by
    apply Lib.hid; intro w; have h := add_any A1 A2 e f w; rw [E6] at h; exact h
  have K7 : Hid (∀ w, Calls Try.prog 26 #[.agg #[.int .i64 a, .int .i64 b], .agg #[.int .i64 D1, .int .i64 D2]] w fun e w' => e = .returned (.tuple #[.agg #[.int .i64 R1, .int .i64 R2], .bool s]) ∧ Below w.heap.size w w') := by
    apply Lib.hid; intro w; have h := add_any a b D1 D2 w; rw [E7] at h; exact h
  have K8 : Hid (∀ w, Calls Try.prog 22 #[.agg #[.int .i64 c, .int .i64 d], .agg #[.int .i64 e, .int .i64 f]] w fun e w' => e = .returned (.tuple #[.agg #[.int .i64 M1, .int .i64 M2], .bool t]) ∧ Below w.heap.size w w') := by
    apply Lib.hid; intro w; have h := prod_any c d e f w; rw [E8] at h; exact h
  have K9 : Hid (∀ w, Calls Try.prog 22 #[.agg #[.int .i64 C1, .int .i64 C2], .agg #[.int .i64 e, .int .i64 f]] w fun e w' => e = .returned (.tuple #[.agg #[.int .i64 U1, .int .i64 U2], .bool u]) ∧ Below w.heap.size w w') := by
    apply Lib.hid; intro w; have h := prod_any C1 C2 e f w; rw [E9] at h; exact h
  have K10 : Hid (∀ w, Calls Try.prog 22 #[.agg #[.int .i64 a, .int .i64 b], .agg #[.int .i64 M1, .int .i64 M2]] w fun e w' => e = .returned (.tuple #[.agg #[.int .i64 V1, .int .i64 V2], .bool v]) ∧ Below w.heap.size w w') := by
    apply Lib.hid; intro w; have h := prod_any a b M1 M2 w; rw [E10] at h; exact h
  have K11 : Hid (∀ w, Calls Try.prog 22 #[.agg #[.int .i64 a, .int .i64 b], .agg #[.int .i64 e, .int .i64 f]] w fun e w' => e = .returned (.tuple #[.agg #[.int .i64 W1, .int .i64 W2], .bool q]) ∧ Below w.heap.size w w') := by
    apply Lib.hid; intro w; have h := prod_any a b e f w; rw [E11] at h; exact h
  have K12 : Hid (∀ w, Calls Try.prog 22 #[.agg #[.int .i64 a, .int .i64 b], .agg #[.int .i64 D1, .int .i64 D2]] w fun e w' => e = .returned (.tuple #[.agg #[.int .i64 X1, .int .i64 X2], .bool x]) ∧ Below w.heap.size w w') := by
    apply Lib.hid; intro w; have h := prod_any a b D1 D2 w; rw [E12] at h; exact h
  have K13 : Hid (∀ w, Calls Try.prog 26 #[.agg #[.int .i64 C1, .int .i64 C2], .agg #[.int .i64 W1, .int .i64 W2]] w fun e w' => e = .returned (.tuple #[.agg #[.int .i64 Y1, .int .i64 Y2], .bool y]) ∧ Below w.heap.size w w') := by
    apply Lib.hid; intro w; have h := add_any C1 C2 W1 W2 w; rw [E13] at h; exact h
  clear E0 E1 E2 E3 E4 E5 E6 E7 E8 E9 E10 E11 E12 E13
  have H1' := Lib.hid H1
  clear H1
  have H2' := Lib.hid H2
  clear H2
  have H3' := Lib.hid H3
  clear H3
  have H4' := Lib.hid H4
  clear H4
  have H5' := Lib.hid H5
  clear H5
  have hpe := pair_eq
  go_enter Try.func9, Try.ntmps9
  go_wp2_with fail
  refine (awake02_any _).mono ?_
  rintro e w1 ⟨rfl, hb1⟩
  have hB1 : Below w.heap.size w w1 := Below.after (by first | (go_grown; done) | (refine below_drewN ?_ _; go_grown; done)) hb1
  have hs1 : w.heap.size ≤ w1.heap.size := hB1.size
  have hz1_0 : w.heap.size < w1.heap.size := by have := hb1.size; (try simp at this); omega
  have hz1_1 : w.heap.size + 1 < w1.heap.size := by have := hb1.size; (try simp at this); omega
  have hz1_2 : w.heap.size + 1 + 1 < w1.heap.size := by have := hb1.size; (try simp at this); omega
  have hc1_0 : w1.cell? ⟨w.heap.size, 0, none⟩ = some (.int .i64 a) := (hb1.cell (p := ⟨w.heap.size, 0, none⟩) (by first | omega | (simp; done) | (simp; omega))).trans (by simp [go_sem, *])
  have hc1_1 : w1.cell? ⟨w.heap.size, 1, none⟩ = some (.int .i64 b) := (hb1.cell (p := ⟨w.heap.size, 1, none⟩) (by first | omega | (simp; done) | (simp; omega))).trans (by simp [go_sem, *])
  have hc1_2 : w1.cell? ⟨w.heap.size + 1, 0, none⟩ = some (.int .i64 c) := (hb1.cell (p := ⟨w.heap.size + 1, 0, none⟩) (by first | omega | (simp; done) | (simp; omega))).trans (by simp [go_sem, *])
  have hc1_3 : w1.cell? ⟨w.heap.size + 1, 1, none⟩ = some (.int .i64 d) := (hb1.cell (p := ⟨w.heap.size + 1, 1, none⟩) (by first | omega | (simp; done) | (simp; omega))).trans (by simp [go_sem, *])
  have hc1_4 : w1.cell? ⟨w.heap.size + 1 + 1, 0, none⟩ = some (.int .i64 e) := (hb1.cell (p := ⟨w.heap.size + 1 + 1, 0, none⟩) (by first | omega | (simp; done) | (simp; omega))).trans (by simp [go_sem, *])
  have hc1_5 : w1.cell? ⟨w.heap.size + 1 + 1, 1, none⟩ = some (.int .i64 f) := (hb1.cell (p := ⟨w.heap.size + 1 + 1, 1, none⟩) (by first | omega | (simp; done) | (simp; omega))).trans (by simp [go_sem, *])
  clear hb1
  go_wp2_with fail
  refine (K0.out _).mono ?_
  rintro e w2 ⟨rfl, hb2⟩
  have hB2 : Below w.heap.size w w2 := Below.after (by first | (go_grown; done) | (refine below_drewN ?_ _; go_grown; done)) hb2
  have hs2 : w.heap.size ≤ w2.heap.size := hB2.size
  have hz2_0 : w.heap.size < w2.heap.size := by have := hb2.size; (try simp at this); omega
  have hz2_1 : w.heap.size + 1 < w2.heap.size := by have := hb2.size; (try simp at this); omega
  have hz2_2 : w.heap.size + 1 + 1 < w2.heap.size := by have := hb2.size; (try simp at this); omega
  have hc2_0 : w2.cell? ⟨w.heap.size, 0, none⟩ = some (.int .i64 a) := (hb2.cell (p := ⟨w.heap.size, 0, none⟩) (by first | omega | (simp; done) | (simp; omega))).trans (by simp [go_sem, *])
  have hc2_1 : w2.cell? ⟨w.heap.size, 1, none⟩ = some (.int .i64 b) := (hb2.cell (p := ⟨w.heap.size, 1, none⟩) (by first | omega | (simp; done) | (simp; omega))).trans (by simp [go_sem, *])
  have hc2_2 : w2.cell? ⟨w.heap.size + 1, 0, none⟩ = some (.int .i64 c) := (hb2.cell (p := ⟨w.heap.size + 1, 0, none⟩) (by first | omega | (simp; done) | (simp; omega))).trans (by simp [go_sem, *])
  have hc2_3 : w2.cell? ⟨w.heap.size + 1, 1, none⟩ = some (.int .i64 d) := (hb2.cell (p := ⟨w.heap.size + 1, 1, none⟩) (by first | omega | (simp; done) | (simp; omega))).trans (by simp [go_sem, *])
  have hc2_4 : w2.cell? ⟨w.heap.size + 1 + 1, 0, none⟩ = some (.int .i64 e) := (hb2.cell (p := ⟨w.heap.size + 1 + 1, 0, none⟩) (by first | omega | (simp; done) | (simp; omega))).trans (by simp [go_sem, *])
  have hc2_5 : w2.cell? ⟨w.heap.size + 1 + 1, 1, none⟩ = some (.int .i64 f) := (hb2.cell (p := ⟨w.heap.size + 1 + 1, 1, none⟩) (by first | omega | (simp; done) | (simp; omega))).trans (by simp [go_sem, *])
  clear hc1_0 hc1_1 hc1_2 hc1_3 hc1_4 hc1_5
  clear hb2
  go_wp2_with fail
  refine (K1.out _).mono ?_
  rintro e w3 ⟨rfl, hb3⟩
  have hB3 : Below w.heap.size w w3 := Below.after (by first | (go_grown; done) | (refine below_drewN ?_ _; go_grown; done)) hb3
  have hs3 : w.heap.size ≤ w3.heap.size := hB3.size
  have hz3_0 : w.heap.size < w3.heap.size := by have := hb3.size; (try simp at this); omega
  have hz3_1 : w.heap.size + 1 < w3.heap.size := by have := hb3.size; (try simp at this); omega
  have hz3_2 : w.heap.size + 1 + 1 < w3.heap.size := by have := hb3.size; (try simp at this); omega
  have hz3_3 : w2.heap.size < w3.heap.size := by have := hb3.size; (try simp at this); omega
  have hc3_0 : w3.cell? ⟨w.heap.size, 0, none⟩ = some (.int .i64 a) := (hb3.cell (p := ⟨w.heap.size, 0, none⟩) (by first | omega | (simp; done) | (simp; omega))).trans (by simp [go_sem, *])
  have hc3_1 : w3.cell? ⟨w.heap.size, 1, none⟩ = some (.int .i64 b) := (hb3.cell (p := ⟨w.heap.size, 1, none⟩) (by first | omega | (simp; done) | (simp; omega))).trans (by simp [go_sem, *])
  have hc3_2 : w3.cell? ⟨w.heap.size + 1, 0, none⟩ = some (.int .i64 c) := (hb3.cell (p := ⟨w.heap.size + 1, 0, none⟩) (by first | omega | (simp; done) | (simp; omega))).trans (by simp [go_sem, *])
  have hc3_3 : w3.cell? ⟨w.heap.size + 1, 1, none⟩ = some (.int .i64 d) := (hb3.cell (p := ⟨w.heap.size + 1, 1, none⟩) (by first | omega | (simp; done) | (simp; omega))).trans (by simp [go_sem, *])
  have hc3_4 : w3.cell? ⟨w.heap.size + 1 + 1, 0, none⟩ = some (.int .i64 e) := (hb3.cell (p := ⟨w.heap.size + 1 + 1, 0, none⟩) (by first | omega | (simp; done) | (simp; omega))).trans (by simp [go_sem, *])
  have hc3_5 : w3.cell? ⟨w.heap.size + 1 + 1, 1, none⟩ = some (.int .i64 f) := (hb3.cell (p := ⟨w.heap.size + 1 + 1, 1, none⟩) (by first | omega | (simp; done) | (simp; omega))).trans (by simp [go_sem, *])
  have hc3_6 : w3.cell? ⟨w2.heap.size, 0, none⟩ = some (.int .i64 A1) := (hb3.cell (p := ⟨w2.heap.size, 0, none⟩) (by first | omega | (simp; done) | (simp; omega))).trans (by simp [go_sem, *])
  have hc3_7 : w3.cell? ⟨w2.heap.size, 1, none⟩ = some (.int .i64 A2) := (hb3.cell (p := ⟨w2.heap.size, 1, none⟩) (by first | omega | (simp; done) | (simp; omega))).trans (by simp [go_sem, *])
  clear hc2_0 hc2_1 hc2_2 hc2_3 hc2_4 hc2_5
  clear hb3
  go_wp2_with fail
  refine (K2.out _).mono ?_
  rintro e w4 ⟨rfl, hb4⟩
  have hB4 : Below w.heap.size w w4 := Below.after (by first | (go_grown; done) | (refine below_drewN ?_ _; go_grown; done)) hb4
  have hs4 : w.heap.size ≤ w4.heap.size := hB4.size
  have hz4_0 : w.heap.size < w4.heap.size := by have := hb4.size; (try simp at this); omega
  have hz4_1 : w.heap.size + 1 < w4.heap.size := by have := hb4.size; (try simp at this); omega
  have hz4_2 : w.heap.size + 1 + 1 < w4.heap.size := by have := hb4.size; (try simp at this); omega
  have hz4_3 : w2.heap.size < w4.heap.size := by have := hb4.size; (try simp at this); omega
  have hz4_4 : w3.heap.size < w4.heap.size := by have := hb4.size; (try simp at this); omega
  have hc4_0 : w4.cell? ⟨w.heap.size, 0, none⟩ = some (.int .i64 a) := (hb4.cell (p := ⟨w.heap.size, 0, none⟩) (by first | omega | (simp; done) | (simp; omega))).trans (by simp [go_sem, *])
  have hc4_1 : w4.cell? ⟨w.heap.size, 1, none⟩ = some (.int .i64 b) := (hb4.cell (p := ⟨w.heap.size, 1, none⟩) (by first | omega | (simp; done) | (simp; omega))).trans (by simp [go_sem, *])
  have hc4_2 : w4.cell? ⟨w.heap.size + 1, 0, none⟩ = some (.int .i64 c) := (hb4.cell (p := ⟨w.heap.size + 1, 0, none⟩) (by first | omega | (simp; done) | (simp; omega))).trans (by simp [go_sem, *])
  have hc4_3 : w4.cell? ⟨w.heap.size + 1, 1, none⟩ = some (.int .i64 d) := (hb4.cell (p := ⟨w.heap.size + 1, 1, none⟩) (by first | omega | (simp; done) | (simp; omega))).trans (by simp [go_sem, *])
  have hc4_4 : w4.cell? ⟨w.heap.size + 1 + 1, 0, none⟩ = some (.int .i64 e) := (hb4.cell (p := ⟨w.heap.size + 1 + 1, 0, none⟩) (by first | omega | (simp; done) | (simp; omega))).trans (by simp [go_sem, *])
  have hc4_5 : w4.cell? ⟨w.heap.size + 1 + 1, 1, none⟩ = some (.int .i64 f) := (hb4.cell (p := ⟨w.heap.size + 1 + 1, 1, none⟩) (by first | omega | (simp; done) | (simp; omega))).trans (by simp [go_sem, *])
  have hc4_6 : w4.cell? ⟨w2.heap.size, 0, none⟩ = some (.int .i64 A1) := (hb4.cell (p := ⟨w2.heap.size, 0, none⟩) (by first | omega | (simp; done) | (simp; omega))).trans (by simp [go_sem, *])
  have hc4_7 : w4.cell? ⟨w2.heap.size, 1, none⟩ = some (.int .i64 A2) := (hb4.cell (p := ⟨w2.heap.size, 1, none⟩) (by first | omega | (simp; done) | (simp; omega))).trans (by simp [go_sem, *])
  have hc4_8 : w4.cell? ⟨w3.heap.size, 0, none⟩ = some (.int .i64 A1) := (hb4.cell (p := ⟨w3.heap.size, 0, none⟩) (by first | omega | (simp; done) | (simp; omega))).trans (by simp [go_sem, *])
  have hc4_9 : w4.cell? ⟨w3.heap.size, 1, none⟩ = some (.int .i64 A2) := (hb4.cell (p := ⟨w3.heap.size, 1, none⟩) (by first | omega | (simp; done) | (simp; omega))).trans (by simp [go_sem, *])
  clear hc3_0 hc3_1 hc3_2 hc3_3 hc3_4 hc3_5 hc3_6 hc3_7
  clear hb4
  go_wp2_with fail
  refine (K3.out _).mono ?_
  rintro e w5 ⟨rfl, hb5⟩
  have hB5 : Below w.heap.size w w5 := Below.after (by first | (go_grown; done) | (refine below_drewN ?_ _; go_grown; done)) hb5
  have hs5 : w.heap.size ≤ w5.heap.size := hB5.size
  have hz5_0 : w.heap.size < w5.heap.size := by have := hb5.size; (try simp at this); omega
  have hz5_1 : w.heap.size + 1 < w5.heap.size := by have := hb5.size; (try simp at this); omega
  have hz5_2 : w.heap.size + 1 + 1 < w5.heap.size := by have := hb5.size; (try simp at this); omega
  have hz5_3 : w2.heap.size < w5.heap.size := by have := hb5.size; (try simp at this); omega
  have hz5_4 : w3.heap.size < w5.heap.size := by have := hb5.size; (try simp at this); omega
  have hz5_5 : w4.heap.size < w5.heap.size := by have := hb5.size; (try simp at this); omega
  have hc5_0 : w5.cell? ⟨w.heap.size, 0, none⟩ = some (.int .i64 a) := (hb5.cell (p := ⟨w.heap.size, 0, none⟩) (by first | omega | (simp; done) | (simp; omega))).trans (by simp [go_sem, *])
  have hc5_1 : w5.cell? ⟨w.heap.size, 1, none⟩ = some (.int .i64 b) := (hb5.cell (p := ⟨w.heap.size, 1, none⟩) (by first | omega | (simp; done) | (simp; omega))).trans (by simp [go_sem, *])
  have hc5_2 : w5.cell? ⟨w.heap.size + 1, 0, none⟩ = some (.int .i64 c) := (hb5.cell (p := ⟨w.heap.size + 1, 0, none⟩) (by first | omega | (simp; done) | (simp; omega))).trans (by simp [go_sem, *])
  have hc5_3 : w5.cell? ⟨w.heap.size + 1, 1, none⟩ = some (.int .i64 d) := (hb5.cell (p := ⟨w.heap.size + 1, 1, none⟩) (by first | omega | (simp; done) | (simp; omega))).trans (by simp [go_sem, *])
  have hc5_4 : w5.cell? ⟨w.heap.size + 1 + 1, 0, none⟩ = some (.int .i64 e) := (hb5.cell (p := ⟨w.heap.size + 1 + 1, 0, none⟩) (by first | omega | (simp; done) | (simp; omega))).trans (by simp [go_sem, *])
  have hc5_5 : w5.cell? ⟨w.heap.size + 1 + 1, 1, none⟩ = some (.int .i64 f) := (hb5.cell (p := ⟨w.heap.size + 1 + 1, 1, none⟩) (by first | omega | (simp; done) | (simp; omega))).trans (by simp [go_sem, *])
  have hc5_6 : w5.cell? ⟨w2.heap.size, 0, none⟩ = some (.int .i64 A1) := (hb5.cell (p := ⟨w2.heap.size, 0, none⟩) (by first | omega | (simp; done) | (simp; omega))).trans (by simp [go_sem, *])
  have hc5_7 : w5.cell? ⟨w2.heap.size, 1, none⟩ = some (.int .i64 A2) := (hb5.cell (p := ⟨w2.heap.size, 1, none⟩) (by first | omega | (simp; done) | (simp; omega))).trans (by simp [go_sem, *])
  have hc5_8 : w5.cell? ⟨w3.heap.size, 0, none⟩ = some (.int .i64 A1) := (hb5.cell (p := ⟨w3.heap.size, 0, none⟩) (by first | omega | (simp; done) | (simp; omega))).trans (by simp [go_sem, *])
  have hc5_9 : w5.cell? ⟨w3.heap.size, 1, none⟩ = some (.int .i64 A2) := (hb5.cell (p := ⟨w3.heap.size, 1, none⟩) (by first | omega | (simp; done) | (simp; omega))).trans (by simp [go_sem, *])
  have hc5_10 : w5.cell? ⟨w4.heap.size, 0, none⟩ = some (.int .i64 C1) := (hb5.cell (p := ⟨w4.heap.size, 0, none⟩) (by first | omega | (simp; done) | (simp; omega))).trans (by simp [go_sem, *])
  have hc5_11 : w5.cell? ⟨w4.heap.size, 1, none⟩ = some (.int .i64 C2) := (hb5.cell (p := ⟨w4.heap.size, 1, none⟩) (by first | omega | (simp; done) | (simp; omega))).trans (by simp [go_sem, *])
  clear hc4_0 hc4_1 hc4_2 hc4_3 hc4_4 hc4_5 hc4_6 hc4_7 hc4_8 hc4_9
  clear hb5
  go_upto_region 7 with fail
  obtain ⟨w6, hw6⟩ : ∃ w6, w6 = w5.alloc (.cells #[.int .i64 C1, .int .i64 C2] 52) := ⟨_, rfl⟩
  rw [← hw6]
  have hB6 : Below w.heap.size w w6 := by rw [hw6]; go_grown
  have hs6 : w.heap.size ≤ w6.heap.size := hB6.size
  have hz6_0 : w.heap.size < w6.heap.size := by rw [hw6]; first | (simp; done) | (simp; omega) | omega
  have hz6_1 : w.heap.size + 1 < w6.heap.size := by rw [hw6]; first | (simp; done) | (simp; omega) | omega
  have hz6_2 : w.heap.size + 1 + 1 < w6.heap.size := by rw [hw6]; first | (simp; done) | (simp; omega) | omega
  have hz6_3 : w2.heap.size < w6.heap.size := by rw [hw6]; first | (simp; done) | (simp; omega) | omega
  have hz6_4 : w3.heap.size < w6.heap.size := by rw [hw6]; first | (simp; done) | (simp; omega) | omega
  have hz6_5 : w4.heap.size < w6.heap.size := by rw [hw6]; first | (simp; done) | (simp; omega) | omega
  have hz6_6 : w5.heap.size < w6.heap.size := by rw [hw6]; first | (simp; done) | (simp; omega) | omega
  have hc6_0 : w6.cell? ⟨w.heap.size, 0, none⟩ = some (.int .i64 a) := by rw [hw6]; simp [go_sem, *]
  have hc6_1 : w6.cell? ⟨w.heap.size, 1, none⟩ = some (.int .i64 b) := by rw [hw6]; simp [go_sem, *]
  have hc6_2 : w6.cell? ⟨w.heap.size + 1, 0, none⟩ = some (.int .i64 c) := by rw [hw6]; simp [go_sem, *]
  have hc6_3 : w6.cell? ⟨w.heap.size + 1, 1, none⟩ = some (.int .i64 d) := by rw [hw6]; simp [go_sem, *]
  have hc6_4 : w6.cell? ⟨w.heap.size + 1 + 1, 0, none⟩ = some (.int .i64 e) := by rw [hw6]; simp [go_sem, *]
  have hc6_5 : w6.cell? ⟨w.heap.size + 1 + 1, 1, none⟩ = some (.int .i64 f) := by rw [hw6]; simp [go_sem, *]
  have hc6_6 : w6.cell? ⟨w2.heap.size, 0, none⟩ = some (.int .i64 A1) := by rw [hw6]; simp [go_sem, *]
  have hc6_7 : w6.cell? ⟨w2.heap.size, 1, none⟩ = some (.int .i64 A2) := by rw [hw6]; simp [go_sem, *]
  have hc6_8 : w6.cell? ⟨w3.heap.size, 0, none⟩ = some (.int .i64 A1) := by rw [hw6]; simp [go_sem, *]
  have hc6_9 : w6.cell? ⟨w3.heap.size, 1, none⟩ = some (.int .i64 A2) := by rw [hw6]; simp [go_sem, *]
  have hc6_10 : w6.cell? ⟨w4.heap.size, 0, none⟩ = some (.int .i64 C1) := by rw [hw6]; simp [go_sem, *]
  have hc6_11 : w6.cell? ⟨w4.heap.size, 1, none⟩ = some (.int .i64 C2) := by rw [hw6]; simp [go_sem, *]
  have hc6_12 : w6.cell? ⟨w5.heap.size, 0, none⟩ = some (.int .i64 C1) := by rw [hw6]; simp [go_sem, *]
  have hc6_13 : w6.cell? ⟨w5.heap.size, 1, none⟩ = some (.int .i64 C2) := by rw [hw6]; simp [go_sem, *]
  clear hc5_0 hc5_1 hc5_2 hc5_3 hc5_4 hc5_5 hc5_6 hc5_7 hc5_8 hc5_9 hc5_10 hc5_11
  clear hw6
  go_cut [90] (fun sx wx => sx = .bool false ∧ Below w6.heap.size w6 wx)
  case first =>
    as_aux_lemma =>
      rcases H1'.out with ⟨q1, q2⟩ | ⟨q1, q2⟩
      · have c1 := fun w => may_any a b w
        have c2 := fun w => may_any c d w
        rw [q1] at c1
        rw [q2] at c2
        have G1 := Lib.hid c1
        have G2 := Lib.hid c2
        clear c1 c2 q1 q2
        go_wp2_with fail
        refine (G1.out _).mono ?_
        rintro e w7 ⟨rfl, hb7⟩
        have hB7 : Below w.heap.size w w7 := Below.after (by first | (go_grown; done) | (refine below_drewN ?_ _; go_grown; done)) hb7
        have hs7 : w.heap.size ≤ w7.heap.size := hB7.size
        have hz7_0 : w.heap.size < w7.heap.size := by have := hb7.size; (try simp at this); omega
        have hz7_1 : w.heap.size + 1 < w7.heap.size := by have := hb7.size; (try simp at this); omega
        have hz7_2 : w.heap.size + 1 + 1 < w7.heap.size := by have := hb7.size; (try simp at this); omega
        have hz7_3 : w2.heap.size < w7.heap.size := by have := hb7.size; (try simp at this); omega
        have hz7_4 : w3.heap.size < w7.heap.size := by have := hb7.size; (try simp at this); omega
        have hz7_5 : w4.heap.size < w7.heap.size := by have := hb7.size; (try simp at this); omega
        have hz7_6 : w5.heap.size < w7.heap.size := by have := hb7.size; (try simp at this); omega
        have hc7_0 : w7.cell? ⟨w.heap.size, 0, none⟩ = some (.int .i64 a) := (hb7.cell (p := ⟨w.heap.size, 0, none⟩) (by first | omega | (simp; done) | (simp; omega))).trans (by simp [go_sem, *])
        have hc7_1 : w7.cell? ⟨w.heap.size, 1, none⟩ = some (.int .i64 b) := (hb7.cell (p := ⟨w.heap.size, 1, none⟩) (by first | omega | (simp; done) | (simp; omega))).trans (by simp [go_sem, *])
        have hc7_2 : w7.cell? ⟨w.heap.size + 1, 0, none⟩ = some (.int .i64 c) := (hb7.cell (p := ⟨w.heap.size + 1, 0, none⟩) (by first | omega | (simp; done) | (simp; omega))).trans (by simp [go_sem, *])
        have hc7_3 : w7.cell? ⟨w.heap.size + 1, 1, none⟩ = some (.int .i64 d) := (hb7.cell (p := ⟨w.heap.size + 1, 1, none⟩) (by first | omega | (simp; done) | (simp; omega))).trans (by simp [go_sem, *])
        have hc7_4 : w7.cell? ⟨w.heap.size + 1 + 1, 0, none⟩ = some (.int .i64 e) := (hb7.cell (p := ⟨w.heap.size + 1 + 1, 0, none⟩) (by first | omega | (simp; done) | (simp; omega))).trans (by simp [go_sem, *])
        have hc7_5 : w7.cell? ⟨w.heap.size + 1 + 1, 1, none⟩ = some (.int .i64 f) := (hb7.cell (p := ⟨w.heap.size + 1 + 1, 1, none⟩) (by first | omega | (simp; done) | (simp; omega))).trans (by simp [go_sem, *])
        have hc7_6 : w7.cell? ⟨w2.heap.size, 0, none⟩ = some (.int .i64 A1) := (hb7.cell (p := ⟨w2.heap.size, 0, none⟩) (by first | omega | (simp; done) | (simp; omega))).trans (by simp [go_sem, *])
        have hc7_7 : w7.cell? ⟨w2.heap.size, 1, none⟩ = some (.int .i64 A2) := (hb7.cell (p := ⟨w2.heap.size, 1, none⟩) (by first | omega | (simp; done) | (simp; omega))).trans (by simp [go_sem, *])
        have hc7_8 : w7.cell? ⟨w3.heap.size, 0, none⟩ = some (.int .i64 A1) := (hb7.cell (p := ⟨w3.heap.size, 0, none⟩) (by first | omega | (simp; done) | (simp; omega))).trans (by simp [go_sem, *])
        have hc7_9 : w7.cell? ⟨w3.heap.size, 1, none⟩ = some (.int .i64 A2) := (hb7.cell (p := ⟨w3.heap.size, 1, none⟩) (by first | omega | (simp; done) | (simp; omega))).trans (by simp [go_sem, *])
        have hc7_10 : w7.cell? ⟨w4.heap.size, 0, none⟩ = some (.int .i64 C1) := (hb7.cell (p := ⟨w4.heap.size, 0, none⟩) (by first | omega | (simp; done) | (simp; omega))).trans (by simp [go_sem, *])
        have hc7_11 : w7.cell? ⟨w4.heap.size, 1, none⟩ = some (.int .i64 C2) := (hb7.cell (p := ⟨w4.heap.size, 1, none⟩) (by first | omega | (simp; done) | (simp; omega))).trans (by simp [go_sem, *])
        have hc7_12 : w7.cell? ⟨w5.heap.size, 0, none⟩ = some (.int .i64 C1) := (hb7.cell (p := ⟨w5.heap.size, 0, none⟩) (by first | omega | (simp; done) | (simp; omega))).trans (by simp [go_sem, *])
        have hc7_13 : w7.cell? ⟨w5.heap.size, 1, none⟩ = some (.int .i64 C2) := (hb7.cell (p := ⟨w5.heap.size, 1, none⟩) (by first | omega | (simp; done) | (simp; omega))).trans (by simp [go_sem, *])
        clear hc6_0 hc6_1 hc6_2 hc6_3 hc6_4 hc6_5 hc6_6 hc6_7 hc6_8 hc6_9 hc6_10 hc6_11 hc6_12 hc6_13
        have hq7 := hb7
        clear hb7
        go_wp2_with fail
        refine (G2.out _).mono ?_
        rintro e w8 ⟨rfl, hb8⟩
        have hB8 : Below w.heap.size w w8 := Below.after (by first | (go_grown; done) | (refine below_drewN ?_ _; go_grown; done)) hb8
        have hs8 : w.heap.size ≤ w8.heap.size := hB8.size
        have hz8_0 : w.heap.size < w8.heap.size := by have := hb8.size; (try simp at this); omega
        have hz8_1 : w.heap.size + 1 < w8.heap.size := by have := hb8.size; (try simp at this); omega
        have hz8_2 : w.heap.size + 1 + 1 < w8.heap.size := by have := hb8.size; (try simp at this); omega
        have hz8_3 : w2.heap.size < w8.heap.size := by have := hb8.size; (try simp at this); omega
        have hz8_4 : w3.heap.size < w8.heap.size := by have := hb8.size; (try simp at this); omega
        have hz8_5 : w4.heap.size < w8.heap.size := by have := hb8.size; (try simp at this); omega
        have hz8_6 : w5.heap.size < w8.heap.size := by have := hb8.size; (try simp at this); omega
        have hc8_0 : w8.cell? ⟨w.heap.size, 0, none⟩ = some (.int .i64 a) := (hb8.cell (p := ⟨w.heap.size, 0, none⟩) (by first | omega | (simp; done) | (simp; omega))).trans (by simp [go_sem, *])
        have hc8_1 : w8.cell? ⟨w.heap.size, 1, none⟩ = some (.int .i64 b) := (hb8.cell (p := ⟨w.heap.size, 1, none⟩) (by first | omega | (simp; done) | (simp; omega))).trans (by simp [go_sem, *])
        have hc8_2 : w8.cell? ⟨w.heap.size + 1, 0, none⟩ = some (.int .i64 c) := (hb8.cell (p := ⟨w.heap.size + 1, 0, none⟩) (by first | omega | (simp; done) | (simp; omega))).trans (by simp [go_sem, *])
        have hc8_3 : w8.cell? ⟨w.heap.size + 1, 1, none⟩ = some (.int .i64 d) := (hb8.cell (p := ⟨w.heap.size + 1, 1, none⟩) (by first | omega | (simp; done) | (simp; omega))).trans (by simp [go_sem, *])
        have hc8_4 : w8.cell? ⟨w.heap.size + 1 + 1, 0, none⟩ = some (.int .i64 e) := (hb8.cell (p := ⟨w.heap.size + 1 + 1, 0, none⟩) (by first | omega | (simp; done) | (simp; omega))).trans (by simp [go_sem, *])
        have hc8_5 : w8.cell? ⟨w.heap.size + 1 + 1, 1, none⟩ = some (.int .i64 f) := (hb8.cell (p := ⟨w.heap.size + 1 + 1, 1, none⟩) (by first | omega | (simp; done) | (simp; omega))).trans (by simp [go_sem, *])
        have hc8_6 : w8.cell? ⟨w2.heap.size, 0, none⟩ = some (.int .i64 A1) := (hb8.cell (p := ⟨w2.heap.size, 0, none⟩) (by first | omega | (simp; done) | (simp; omega))).trans (by simp [go_sem, *])
        have hc8_7 : w8.cell? ⟨w2.heap.size, 1, none⟩ = some (.int .i64 A2) := (hb8.cell (p := ⟨w2.heap.size, 1, none⟩) (by first | omega | (simp; done) | (simp; omega))).trans (by simp [go_sem, *])
        have hc8_8 : w8.cell? ⟨w3.heap.size, 0, none⟩ = some (.int .i64 A1) := (hb8.cell (p := ⟨w3.heap.size, 0, none⟩) (by first | omega | (simp; done) | (simp; omega))).trans (by simp [go_sem, *])
        have hc8_9 : w8.cell? ⟨w3.heap.size, 1, none⟩ = some (.int .i64 A2) := (hb8.cell (p := ⟨w3.heap.size, 1, none⟩) (by first | omega | (simp; done) | (simp; omega))).trans (by simp [go_sem, *])
        have hc8_10 : w8.cell? ⟨w4.heap.size, 0, none⟩ = some (.int .i64 C1) := (hb8.cell (p := ⟨w4.heap.size, 0, none⟩) (by first | omega | (simp; done) | (simp; omega))).trans (by simp [go_sem, *])
        have hc8_11 : w8.cell? ⟨w4.heap.size, 1, none⟩ = some (.int .i64 C2) := (hb8.cell (p := ⟨w4.heap.size, 1, none⟩) (by first | omega | (simp; done) | (simp; omega))).trans (by simp [go_sem, *])
        have hc8_12 : w8.cell? ⟨w5.heap.size, 0, none⟩ = some (.int .i64 C1) := (hb8.cell (p := ⟨w5.heap.size, 0, none⟩) (by first | omega | (simp; done) | (simp; omega))).trans (by simp [go_sem, *])
        have hc8_13 : w8.cell? ⟨w5.heap.size, 1, none⟩ = some (.int .i64 C2) := (hb8.cell (p := ⟨w5.heap.size, 1, none⟩) (by first | omega | (simp; done) | (simp; omega))).trans (by simp [go_sem, *])
        clear hc7_0 hc7_1 hc7_2 hc7_3 hc7_4 hc7_5 hc7_6 hc7_7 hc7_8 hc7_9 hc7_10 hc7_11 hc7_12 hc7_13
        have hq8 := hb8
        clear hb8
        go_wp2_with fail
        go_meet
        exact ⟨rfl, Below.after (Below.after (Below.refl _ _) hq7) hq8⟩
      · subst q1 q2
        cases hm : mayB a b
        · have c1 := fun w => may_any a b w
          rw [hm] at c1
          have G1 := Lib.hid c1
          clear c1 hm
          go_wp2_with fail
          refine (G1.out _).mono ?_
          rintro e w9 ⟨rfl, hb9⟩
          have hB9 : Below w.heap.size w w9 := Below.after (by first | (go_grown; done) | (refine below_drewN ?_ _; go_grown; done)) hb9
          have hs9 : w.heap.size ≤ w9.heap.size := hB9.size
          have hz9_0 : w.heap.size < w9.heap.size := by have := hb9.size; (try simp at this); omega
          have hz9_1 : w.heap.size + 1 < w9.heap.size := by have := hb9.size; (try simp at this); omega
          have hz9_2 : w.heap.size + 1 + 1 < w9.heap.size := by have := hb9.size; (try simp at this); omega
          have hz9_3 : w2.heap.size < w9.heap.size := by have := hb9.size; (try simp at this); omega
          have hz9_4 : w3.heap.size < w9.heap.size := by have := hb9.size; (try simp at this); omega
          have hz9_5 : w4.heap.size < w9.heap.size := by have := hb9.size; (try simp at this); omega
          have hz9_6 : w5.heap.size < w9.heap.size := by have := hb9.size; (try simp at this); omega
          have hc9_0 : w9.cell? ⟨w.heap.size, 0, none⟩ = some (.int .i64 a) := (hb9.cell (p := ⟨w.heap.size, 0, none⟩) (by first | omega | (simp; done) | (simp; omega))).trans (by simp [go_sem, *])
          have hc9_1 : w9.cell? ⟨w.heap.size, 1, none⟩ = some (.int .i64 b) := (hb9.cell (p := ⟨w.heap.size, 1, none⟩) (by first | omega | (simp; done) | (simp; omega))).trans (by simp [go_sem, *])
          have hc9_2 : w9.cell? ⟨w.heap.size + 1, 0, none⟩ = some (.int .i64 c) := (hb9.cell (p := ⟨w.heap.size + 1, 0, none⟩) (by first | omega | (simp; done) | (simp; omega))).trans (by simp [go_sem, *])
          have hc9_3 : w9.cell? ⟨w.heap.size + 1, 1, none⟩ = some (.int .i64 d) := (hb9.cell (p := ⟨w.heap.size + 1, 1, none⟩) (by first | omega | (simp; done) | (simp; omega))).trans (by simp [go_sem, *])
          have hc9_4 : w9.cell? ⟨w.heap.size + 1 + 1, 0, none⟩ = some (.int .i64 e) := (hb9.cell (p := ⟨w.heap.size + 1 + 1, 0, none⟩) (by first | omega | (simp; done) | (simp; omega))).trans (by simp [go_sem, *])
          have hc9_5 : w9.cell? ⟨w.heap.size + 1 + 1, 1, none⟩ = some (.int .i64 f) := (hb9.cell (p := ⟨w.heap.size + 1 + 1, 1, none⟩) (by first | omega | (simp; done) | (simp; omega))).trans (by simp [go_sem, *])
          have hc9_6 : w9.cell? ⟨w2.heap.size, 0, none⟩ = some (.int .i64 A1) := (hb9.cell (p := ⟨w2.heap.size, 0, none⟩) (by first | omega | (simp; done) | (simp; omega))).trans (by simp [go_sem, *])
          have hc9_7 : w9.cell? ⟨w2.heap.size, 1, none⟩ = some (.int .i64 A2) := (hb9.cell (p := ⟨w2.heap.size, 1, none⟩) (by first | omega | (simp; done) | (simp; omega))).trans (by simp [go_sem, *])
          have hc9_8 : w9.cell? ⟨w3.heap.size, 0, none⟩ = some (.int .i64 A1) := (hb9.cell (p := ⟨w3.heap.size, 0, none⟩) (by first | omega | (simp; done) | (simp; omega))).trans (by simp [go_sem, *])
          have hc9_9 : w9.cell? ⟨w3.heap.size, 1, none⟩ = some (.int .i64 A2) := (hb9.cell (p := ⟨w3.heap.size, 1, none⟩) (by first | omega | (simp; done) | (simp; omega))).trans (by simp [go_sem, *])
          have hc9_10 : w9.cell? ⟨w4.heap.size, 0, none⟩ = some (.int .i64 C1) := (hb9.cell (p := ⟨w4.heap.size, 0, none⟩) (by first | omega | (simp; done) | (simp; omega))).trans (by simp [go_sem, *])
          have hc9_11 : w9.cell? ⟨w4.heap.size, 1, none⟩ = some (.int .i64 C2) := (hb9.cell (p := ⟨w4.heap.size, 1, none⟩) (by first | omega | (simp; done) | (simp; omega))).trans (by simp [go_sem, *])
          have hc9_12 : w9.cell? ⟨w5.heap.size, 0, none⟩ = some (.int .i64 C1) := (hb9.cell (p := ⟨w5.heap.size, 0, none⟩) (by first | omega | (simp; done) | (simp; omega))).trans (by simp [go_sem, *])
          have hc9_13 : w9.cell? ⟨w5.heap.size, 1, none⟩ = some (.int .i64 C2) := (hb9.cell (p := ⟨w5.heap.size, 1, none⟩) (by first | omega | (simp; done) | (simp; omega))).trans (by simp [go_sem, *])
          clear hc6_0 hc6_1 hc6_2 hc6_3 hc6_4 hc6_5 hc6_6 hc6_7 hc6_8 hc6_9 hc6_10 hc6_11 hc6_12 hc6_13
          have hq9 := hb9
          clear hb9
          go_wp2_with fail
          go_meet
          exact ⟨rfl, hq9⟩
        · have c1 := fun w => may_any a b w
          rw [hm] at c1
          have G1 := Lib.hid c1
          have G2 := Lib.hid (fun w => may_any c d w)
          clear c1 hm
          go_wp2_with fail
          refine (G1.out _).mono ?_
          rintro e w10 ⟨rfl, hb10⟩
          have hB10 : Below w.heap.size w w10 := Below.after (by first | (go_grown; done) | (refine below_drewN ?_ _; go_grown; done)) hb10
          have hs10 : w.heap.size ≤ w10.heap.size := hB10.size
          have hz10_0 : w.heap.size < w10.heap.size := by have := hb10.size; (try simp at this); omega
          have hz10_1 : w.heap.size + 1 < w10.heap.size := by have := hb10.size; (try simp at this); omega
          have hz10_2 : w.heap.size + 1 + 1 < w10.heap.size := by have := hb10.size; (try simp at this); omega
          have hz10_3 : w2.heap.size < w10.heap.size := by have := hb10.size; (try simp at this); omega
          have hz10_4 : w3.heap.size < w10.heap.size := by have := hb10.size; (try simp at this); omega
          have hz10_5 : w4.heap.size < w10.heap.size := by have := hb10.size; (try simp at this); omega
          have hz10_6 : w5.heap.size < w10.heap.size := by have := hb10.size; (try simp at this); omega
          have hc10_0 : w10.cell? ⟨w.heap.size, 0, none⟩ = some (.int .i64 a) := (hb10.cell (p := ⟨w.heap.size, 0, none⟩) (by first | omega | (simp; done) | (simp; omega))).trans (by simp [go_sem, *])
          have hc10_1 : w10.cell? ⟨w.heap.size, 1, none⟩ = some (.int .i64 b) := (hb10.cell (p := ⟨w.heap.size, 1, none⟩) (by first | omega | (simp; done) | (simp; omega))).trans (by simp [go_sem, *])
          have hc10_2 : w10.cell? ⟨w.heap.size + 1, 0, none⟩ = some (.int .i64 c) := (hb10.cell (p := ⟨w.heap.size + 1, 0, none⟩) (by first | omega | (simp; done) | (simp; omega))).trans (by simp [go_sem, *])
          have hc10_3 : w10.cell? ⟨w.heap.size + 1, 1, none⟩ = some (.int .i64 d) := (hb10.cell (p := ⟨w.heap.size + 1, 1, none⟩) (by first | omega | (simp; done) | (simp; omega))).trans (by simp [go_sem, *])
          have hc10_4 : w10.cell? ⟨w.heap.size + 1 + 1, 0, none⟩ = some (.int .i64 e) := (hb10.cell (p := ⟨w.heap.size + 1 + 1, 0, none⟩) (by first | omega | (simp; done) | (simp; omega))).trans (by simp [go_sem, *])
          have hc10_5 : w10.cell? ⟨w.heap.size + 1 + 1, 1, none⟩ = some (.int .i64 f) := (hb10.cell (p := ⟨w.heap.size + 1 + 1, 1, none⟩) (by first | omega | (simp; done) | (simp; omega))).trans (by simp [go_sem, *])
          have hc10_6 : w10.cell? ⟨w2.heap.size, 0, none⟩ = some (.int .i64 A1) := (hb10.cell (p := ⟨w2.heap.size, 0, none⟩) (by first | omega | (simp; done) | (simp; omega))).trans (by simp [go_sem, *])
          have hc10_7 : w10.cell? ⟨w2.heap.size, 1, none⟩ = some (.int .i64 A2) := (hb10.cell (p := ⟨w2.heap.size, 1, none⟩) (by first | omega | (simp; done) | (simp; omega))).trans (by simp [go_sem, *])
          have hc10_8 : w10.cell? ⟨w3.heap.size, 0, none⟩ = some (.int .i64 A1) := (hb10.cell (p := ⟨w3.heap.size, 0, none⟩) (by first | omega | (simp; done) | (simp; omega))).trans (by simp [go_sem, *])
          have hc10_9 : w10.cell? ⟨w3.heap.size, 1, none⟩ = some (.int .i64 A2) := (hb10.cell (p := ⟨w3.heap.size, 1, none⟩) (by first | omega | (simp; done) | (simp; omega))).trans (by simp [go_sem, *])
          have hc10_10 : w10.cell? ⟨w4.heap.size, 0, none⟩ = some (.int .i64 C1) := (hb10.cell (p := ⟨w4.heap.size, 0, none⟩) (by first | omega | (simp; done) | (simp; omega))).trans (by simp [go_sem, *])
          have hc10_11 : w10.cell? ⟨w4.heap.size, 1, none⟩ = some (.int .i64 C2) := (hb10.cell (p := ⟨w4.heap.size, 1, none⟩) (by first | omega | (simp; done) | (simp; omega))).trans (by simp [go_sem, *])
          have hc10_12 : w10.cell? ⟨w5.heap.size, 0, none⟩ = some (.int .i64 C1) := (hb10.cell (p := ⟨w5.heap.size, 0, none⟩) (by first | omega | (simp; done) | (simp; omega))).trans (by simp [go_sem, *])
          have hc10_13 : w10.cell? ⟨w5.heap.size, 1, none⟩ = some (.int .i64 C2) := (hb10.cell (p := ⟨w5.heap.size, 1, none⟩) (by first | omega | (simp; done) | (simp; omega))).trans (by simp [go_sem, *])
          clear hc6_0 hc6_1 hc6_2 hc6_3 hc6_4 hc6_5 hc6_6 hc6_7 hc6_8 hc6_9 hc6_10 hc6_11 hc6_12 hc6_13
          have hq10 := hb10
          clear hb10
          go_wp2_with fail
          refine (G2.out _).mono ?_
          rintro e w11 ⟨rfl, hb11⟩
          have hB11 : Below w.heap.size w w11 := Below.after (by first | (go_grown; done) | (refine below_drewN ?_ _; go_grown; done)) hb11
          have hs11 : w.heap.size ≤ w11.heap.size := hB11.size
          have hz11_0 : w.heap.size < w11.heap.size := by have := hb11.size; (try simp at this); omega
          have hz11_1 : w.heap.size + 1 < w11.heap.size := by have := hb11.size; (try simp at this); omega
          have hz11_2 : w.heap.size + 1 + 1 < w11.heap.size := by have := hb11.size; (try simp at this); omega
          have hz11_3 : w2.heap.size < w11.heap.size := by have := hb11.size; (try simp at this); omega
          have hz11_4 : w3.heap.size < w11.heap.size := by have := hb11.size; (try simp at this); omega
          have hz11_5 : w4.heap.size < w11.heap.size := by have := hb11.size; (try simp at this); omega
          have hz11_6 : w5.heap.size < w11.heap.size := by have := hb11.size; (try simp at this); omega
          have hc11_0 : w11.cell? ⟨w.heap.size, 0, none⟩ = some (.int .i64 a) := (hb11.cell (p := ⟨w.heap.size, 0, none⟩) (by first | omega | (simp; done) | (simp; omega))).trans (by simp [go_sem, *])
          have hc11_1 : w11.cell? ⟨w.heap.size, 1, none⟩ = some (.int .i64 b) := (hb11.cell (p := ⟨w.heap.size, 1, none⟩) (by first | omega | (simp; done) | (simp; omega))).trans (by simp [go_sem, *])
          have hc11_2 : w11.cell? ⟨w.heap.size + 1, 0, none⟩ = some (.int .i64 c) := (hb11.cell (p := ⟨w.heap.size + 1, 0, none⟩) (by first | omega | (simp; done) | (simp; omega))).trans (by simp [go_sem, *])
          have hc11_3 : w11.cell? ⟨w.heap.size + 1, 1, none⟩ = some (.int .i64 d) := (hb11.cell (p := ⟨w.heap.size + 1, 1, none⟩) (by first | omega | (simp; done) | (simp; omega))).trans (by simp [go_sem, *])
          have hc11_4 : w11.cell? ⟨w.heap.size + 1 + 1, 0, none⟩ = some (.int .i64 e) := (hb11.cell (p := ⟨w.heap.size + 1 + 1, 0, none⟩) (by first | omega | (simp; done) | (simp; omega))).trans (by simp [go_sem, *])
          have hc11_5 : w11.cell? ⟨w.heap.size + 1 + 1, 1, none⟩ = some (.int .i64 f) := (hb11.cell (p := ⟨w.heap.size + 1 + 1, 1, none⟩) (by first | omega | (simp; done) | (simp; omega))).trans (by simp [go_sem, *])
          have hc11_6 : w11.cell? ⟨w2.heap.size, 0, none⟩ = some (.int .i64 A1) := (hb11.cell (p := ⟨w2.heap.size, 0, none⟩) (by first | omega | (simp; done) | (simp; omega))).trans (by simp [go_sem, *])
          have hc11_7 : w11.cell? ⟨w2.heap.size, 1, none⟩ = some (.int .i64 A2) := (hb11.cell (p := ⟨w2.heap.size, 1, none⟩) (by first | omega | (simp; done) | (simp; omega))).trans (by simp [go_sem, *])
          have hc11_8 : w11.cell? ⟨w3.heap.size, 0, none⟩ = some (.int .i64 A1) := (hb11.cell (p := ⟨w3.heap.size, 0, none⟩) (by first | omega | (simp; done) | (simp; omega))).trans (by simp [go_sem, *])
          have hc11_9 : w11.cell? ⟨w3.heap.size, 1, none⟩ = some (.int .i64 A2) := (hb11.cell (p := ⟨w3.heap.size, 1, none⟩) (by first | omega | (simp; done) | (simp; omega))).trans (by simp [go_sem, *])
          have hc11_10 : w11.cell? ⟨w4.heap.size, 0, none⟩ = some (.int .i64 C1) := (hb11.cell (p := ⟨w4.heap.size, 0, none⟩) (by first | omega | (simp; done) | (simp; omega))).trans (by simp [go_sem, *])
          have hc11_11 : w11.cell? ⟨w4.heap.size, 1, none⟩ = some (.int .i64 C2) := (hb11.cell (p := ⟨w4.heap.size, 1, none⟩) (by first | omega | (simp; done) | (simp; omega))).trans (by simp [go_sem, *])
          have hc11_12 : w11.cell? ⟨w5.heap.size, 0, none⟩ = some (.int .i64 C1) := (hb11.cell (p := ⟨w5.heap.size, 0, none⟩) (by first | omega | (simp; done) | (simp; omega))).trans (by simp [go_sem, *])
          have hc11_13 : w11.cell? ⟨w5.heap.size, 1, none⟩ = some (.int .i64 C2) := (hb11.cell (p := ⟨w5.heap.size, 1, none⟩) (by first | omega | (simp; done) | (simp; omega))).trans (by simp [go_sem, *])
          clear hc10_0 hc10_1 hc10_2 hc10_3 hc10_4 hc10_5 hc10_6 hc10_7 hc10_8 hc10_9 hc10_10 hc10_11 hc10_12 hc10_13
          have hq11 := hb11
          clear hb11
          cases mayB c d <;> (go_wp2_with fail; go_meet; exact ⟨rfl, Below.after (Below.after (Below.refl _ _) hq10) hq11⟩)
  case rest =>
    as_aux_lemma =>
      obtain ⟨rfl, hcut⟩ := hcut
      obtain ⟨w12, rfl⟩ : ∃ w12, w12 = wc := ⟨_, rfl⟩
      have hB12 : Below w.heap.size w w12 := Below.after (by first | (go_grown; done) | (refine below_drewN ?_ _; go_grown; done)) hcut
      have hs12 : w.heap.size ≤ w12.heap.size := hB12.size
      have hz12_0 : w.heap.size < w12.heap.size := by have := hcut.size; (try simp at this); omega
      have hz12_1 : w.heap.size + 1 < w12.heap.size := by have := hcut.size; (try simp at this); omega
      have hz12_2 : w.heap.size + 1 + 1 < w12.heap.size := by have := hcut.size; (try simp at this); omega
      have hz12_3 : w2.heap.size < w12.heap.size := by have := hcut.size; (try simp at this); omega
      have hz12_4 : w3.heap.size < w12.heap.size := by have := hcut.size; (try simp at this); omega
      have hz12_5 : w4.heap.size < w12.heap.size := by have := hcut.size; (try simp at this); omega
      have hz12_6 : w5.heap.size < w12.heap.size := by have := hcut.size; (try simp at this); omega
      have hc12_0 : w12.cell? ⟨w.heap.size, 0, none⟩ = some (.int .i64 a) := (hcut.cell (p := ⟨w.heap.size, 0, none⟩) (by first | omega | (simp; done) | (simp; omega))).trans (by simp [go_sem, *])
      have hc12_1 : w12.cell? ⟨w.heap.size, 1, none⟩ = some (.int .i64 b) := (hcut.cell (p := ⟨w.heap.size, 1, none⟩) (by first | omega | (simp; done) | (simp; omega))).trans (by simp [go_sem, *])
      have hc12_2 : w12.cell? ⟨w.heap.size + 1, 0, none⟩ = some (.int .i64 c) := (hcut.cell (p := ⟨w.heap.size + 1, 0, none⟩) (by first | omega | (simp; done) | (simp; omega))).trans (by simp [go_sem, *])
      have hc12_3 : w12.cell? ⟨w.heap.size + 1, 1, none⟩ = some (.int .i64 d) := (hcut.cell (p := ⟨w.heap.size + 1, 1, none⟩) (by first | omega | (simp; done) | (simp; omega))).trans (by simp [go_sem, *])
      have hc12_4 : w12.cell? ⟨w.heap.size + 1 + 1, 0, none⟩ = some (.int .i64 e) := (hcut.cell (p := ⟨w.heap.size + 1 + 1, 0, none⟩) (by first | omega | (simp; done) | (simp; omega))).trans (by simp [go_sem, *])
      have hc12_5 : w12.cell? ⟨w.heap.size + 1 + 1, 1, none⟩ = some (.int .i64 f) := (hcut.cell (p := ⟨w.heap.size + 1 + 1, 1, none⟩) (by first | omega | (simp; done) | (simp; omega))).trans (by simp [go_sem, *])
      have hc12_6 : w12.cell? ⟨w2.heap.size, 0, none⟩ = some (.int .i64 A1) := (hcut.cell (p := ⟨w2.heap.size, 0, none⟩) (by first | omega | (simp; done) | (simp; omega))).trans (by simp [go_sem, *])
      have hc12_7 : w12.cell? ⟨w2.heap.size, 1, none⟩ = some (.int .i64 A2) := (hcut.cell (p := ⟨w2.heap.size, 1, none⟩) (by first | omega | (simp; done) | (simp; omega))).trans (by simp [go_sem, *])
      have hc12_8 : w12.cell? ⟨w3.heap.size, 0, none⟩ = some (.int .i64 A1) := (hcut.cell (p := ⟨w3.heap.size, 0, none⟩) (by first | omega | (simp; done) | (simp; omega))).trans (by simp [go_sem, *])
      have hc12_9 : w12.cell? ⟨w3.heap.size, 1, none⟩ = some (.int .i64 A2) := (hcut.cell (p := ⟨w3.heap.size, 1, none⟩) (by first | omega | (simp; done) | (simp; omega))).trans (by simp [go_sem, *])
      have hc12_10 : w12.cell? ⟨w4.heap.size, 0, none⟩ = some (.int .i64 C1) := (hcut.cell (p := ⟨w4.heap.size, 0, none⟩) (by first | omega | (simp; done) | (simp; omega))).trans (by simp [go_sem, *])
      have hc12_11 : w12.cell? ⟨w4.heap.size, 1, none⟩ = some (.int .i64 C2) := (hcut.cell (p := ⟨w4.heap.size, 1, none⟩) (by first | omega | (simp; done) | (simp; omega))).trans (by simp [go_sem, *])
      have hc12_12 : w12.cell? ⟨w5.heap.size, 0, none⟩ = some (.int .i64 C1) := (hcut.cell (p := ⟨w5.heap.size, 0, none⟩) (by first | omega | (simp; done) | (simp; omega))).trans (by simp [go_sem, *])
      have hc12_13 : w12.cell? ⟨w5.heap.size, 1, none⟩ = some (.int .i64 C2) := (hcut.cell (p := ⟨w5.heap.size, 1, none⟩) (by first | omega | (simp; done) | (simp; omega))).trans (by simp [go_sem, *])
      clear hc6_0 hc6_1 hc6_2 hc6_3 hc6_4 hc6_5 hc6_6 hc6_7 hc6_8 hc6_9 hc6_10 hc6_11 hc6_12 hc6_13
      clear hcut
      go_wp2_with fail
      refine (K4.out _).mono ?_
      rintro e w13 ⟨rfl, hb13⟩
      have hB13 : Below w.heap.size w w13 := Below.after (by first | (go_grown; done) | (refine below_drewN ?_ _; go_grown; done)) hb13
      have hs13 : w.heap.size ≤ w13.heap.size := hB13.size
      have hz13_0 : w.heap.size < w13.heap.size := by have := hb13.size; (try simp at this); omega
      have hz13_1 : w.heap.size + 1 < w13.heap.size := by have := hb13.size; (try simp at this); omega
      have hz13_2 : w.heap.size + 1 + 1 < w13.heap.size := by have := hb13.size; (try simp at this); omega
      have hz13_3 : w2.heap.size < w13.heap.size := by have := hb13.size; (try simp at this); omega
      have hz13_4 : w3.heap.size < w13.heap.size := by have := hb13.size; (try simp at this); omega
      have hz13_5 : w4.heap.size < w13.heap.size := by have := hb13.size; (try simp at this); omega
      have hz13_6 : w5.heap.size < w13.heap.size := by have := hb13.size; (try simp at this); omega
      have hc13_0 : w13.cell? ⟨w.heap.size, 0, none⟩ = some (.int .i64 a) := (hb13.cell (p := ⟨w.heap.size, 0, none⟩) (by first | omega | (simp; done) | (simp; omega))).trans (by simp [go_sem, *])
      have hc13_1 : w13.cell? ⟨w.heap.size, 1, none⟩ = some (.int .i64 b) := (hb13.cell (p := ⟨w.heap.size, 1, none⟩) (by first | omega | (simp; done) | (simp; omega))).trans (by simp [go_sem, *])
      have hc13_2 : w13.cell? ⟨w.heap.size + 1, 0, none⟩ = some (.int .i64 c) := (hb13.cell (p := ⟨w.heap.size + 1, 0, none⟩) (by first | omega | (simp; done) | (simp; omega))).trans (by simp [go_sem, *])
      have hc13_3 : w13.cell? ⟨w.heap.size + 1, 1, none⟩ = some (.int .i64 d) := (hb13.cell (p := ⟨w.heap.size + 1, 1, none⟩) (by first | omega | (simp; done) | (simp; omega))).trans (by simp [go_sem, *])
      have hc13_4 : w13.cell? ⟨w.heap.size + 1 + 1, 0, none⟩ = some (.int .i64 e) := (hb13.cell (p := ⟨w.heap.size + 1 + 1, 0, none⟩) (by first | omega | (simp; done) | (simp; omega))).trans (by simp [go_sem, *])
      have hc13_5 : w13.cell? ⟨w.heap.size + 1 + 1, 1, none⟩ = some (.int .i64 f) := (hb13.cell (p := ⟨w.heap.size + 1 + 1, 1, none⟩) (by first | omega | (simp; done) | (simp; omega))).trans (by simp [go_sem, *])
      have hc13_6 : w13.cell? ⟨w2.heap.size, 0, none⟩ = some (.int .i64 A1) := (hb13.cell (p := ⟨w2.heap.size, 0, none⟩) (by first | omega | (simp; done) | (simp; omega))).trans (by simp [go_sem, *])
      have hc13_7 : w13.cell? ⟨w2.heap.size, 1, none⟩ = some (.int .i64 A2) := (hb13.cell (p := ⟨w2.heap.size, 1, none⟩) (by first | omega | (simp; done) | (simp; omega))).trans (by simp [go_sem, *])
      have hc13_8 : w13.cell? ⟨w3.heap.size, 0, none⟩ = some (.int .i64 A1) := (hb13.cell (p := ⟨w3.heap.size, 0, none⟩) (by first | omega | (simp; done) | (simp; omega))).trans (by simp [go_sem, *])
      have hc13_9 : w13.cell? ⟨w3.heap.size, 1, none⟩ = some (.int .i64 A2) := (hb13.cell (p := ⟨w3.heap.size, 1, none⟩) (by first | omega | (simp; done) | (simp; omega))).trans (by simp [go_sem, *])
      have hc13_10 : w13.cell? ⟨w4.heap.size, 0, none⟩ = some (.int .i64 C1) := (hb13.cell (p := ⟨w4.heap.size, 0, none⟩) (by first | omega | (simp; done) | (simp; omega))).trans (by simp [go_sem, *])
      have hc13_11 : w13.cell? ⟨w4.heap.size, 1, none⟩ = some (.int .i64 C2) := (hb13.cell (p := ⟨w4.heap.size, 1, none⟩) (by first | omega | (simp; done) | (simp; omega))).trans (by simp [go_sem, *])
      have hc13_12 : w13.cell? ⟨w5.heap.size, 0, none⟩ = some (.int .i64 C1) := (hb13.cell (p := ⟨w5.heap.size, 0, none⟩) (by first | omega | (simp; done) | (simp; omega))).trans (by simp [go_sem, *])
      have hc13_13 : w13.cell? ⟨w5.heap.size, 1, none⟩ = some (.int .i64 C2) := (hb13.cell (p := ⟨w5.heap.size, 1, none⟩) (by first | omega | (simp; done) | (simp; omega))).trans (by simp [go_sem, *])
      clear hc12_0 hc12_1 hc12_2 hc12_3 hc12_4 hc12_5 hc12_6 hc12_7 hc12_8 hc12_9 hc12_10 hc12_11 hc12_12 hc12_13
      clear hb13
      go_upto_region 10 with fail
      obtain ⟨w14, hw14⟩ : ∃ w14, w14 = w13.alloc (.cells #[.int .i64 B1, .int .i64 B2] 52) := ⟨_, rfl⟩
      rw [← hw14]
      have hB14 : Below w.heap.size w w14 := by rw [hw14]; go_grown
      have hs14 : w.heap.size ≤ w14.heap.size := hB14.size
      have hz14_0 : w.heap.size < w14.heap.size := by rw [hw14]; first | (simp; done) | (simp; omega) | omega
      have hz14_1 : w.heap.size + 1 < w14.heap.size := by rw [hw14]; first | (simp; done) | (simp; omega) | omega
      have hz14_2 : w.heap.size + 1 + 1 < w14.heap.size := by rw [hw14]; first | (simp; done) | (simp; omega) | omega
      have hz14_3 : w2.heap.size < w14.heap.size := by rw [hw14]; first | (simp; done) | (simp; omega) | omega
      have hz14_4 : w3.heap.size < w14.heap.size := by rw [hw14]; first | (simp; done) | (simp; omega) | omega
      have hz14_5 : w4.heap.size < w14.heap.size := by rw [hw14]; first | (simp; done) | (simp; omega) | omega
      have hz14_6 : w5.heap.size < w14.heap.size := by rw [hw14]; first | (simp; done) | (simp; omega) | omega
      have hz14_7 : w13.heap.size < w14.heap.size := by rw [hw14]; first | (simp; done) | (simp; omega) | omega
      have hc14_0 : w14.cell? ⟨w.heap.size, 0, none⟩ = some (.int .i64 a) := by rw [hw14]; simp [go_sem, *]
      have hc14_1 : w14.cell? ⟨w.heap.size, 1, none⟩ = some (.int .i64 b) := by rw [hw14]; simp [go_sem, *]
      have hc14_2 : w14.cell? ⟨w.heap.size + 1, 0, none⟩ = some (.int .i64 c) := by rw [hw14]; simp [go_sem, *]
      have hc14_3 : w14.cell? ⟨w.heap.size + 1, 1, none⟩ = some (.int .i64 d) := by rw [hw14]; simp [go_sem, *]
      have hc14_4 : w14.cell? ⟨w.heap.size + 1 + 1, 0, none⟩ = some (.int .i64 e) := by rw [hw14]; simp [go_sem, *]
      have hc14_5 : w14.cell? ⟨w.heap.size + 1 + 1, 1, none⟩ = some (.int .i64 f) := by rw [hw14]; simp [go_sem, *]
      have hc14_6 : w14.cell? ⟨w2.heap.size, 0, none⟩ = some (.int .i64 A1) := by rw [hw14]; simp [go_sem, *]
      have hc14_7 : w14.cell? ⟨w2.heap.size, 1, none⟩ = some (.int .i64 A2) := by rw [hw14]; simp [go_sem, *]
      have hc14_8 : w14.cell? ⟨w3.heap.size, 0, none⟩ = some (.int .i64 A1) := by rw [hw14]; simp [go_sem, *]
      have hc14_9 : w14.cell? ⟨w3.heap.size, 1, none⟩ = some (.int .i64 A2) := by rw [hw14]; simp [go_sem, *]
      have hc14_10 : w14.cell? ⟨w4.heap.size, 0, none⟩ = some (.int .i64 C1) := by rw [hw14]; simp [go_sem, *]
      have hc14_11 : w14.cell? ⟨w4.heap.size, 1, none⟩ = some (.int .i64 C2) := by rw [hw14]; simp [go_sem, *]
      have hc14_12 : w14.cell? ⟨w5.heap.size, 0, none⟩ = some (.int .i64 C1) := by rw [hw14]; simp [go_sem, *]
      have hc14_13 : w14.cell? ⟨w5.heap.size, 1, none⟩ = some (.int .i64 C2) := by rw [hw14]; simp [go_sem, *]
      have hc14_14 : w14.cell? ⟨w13.heap.size, 0, none⟩ = some (.int .i64 B1) := by rw [hw14]; simp [go_sem, *]
      have hc14_15 : w14.cell? ⟨w13.heap.size, 1, none⟩ = some (.int .i64 B2) := by rw [hw14]; simp [go_sem, *]
      clear hc13_0 hc13_1 hc13_2 hc13_3 hc13_4 hc13_5 hc13_6 hc13_7 hc13_8 hc13_9 hc13_10 hc13_11 hc13_12 hc13_13
      clear hw14
      go_cut [106] (fun sx wx => sx = .bool false ∧ Below w14.heap.size w14 wx)
      case first =>
        as_aux_lemma =>
          cases i
          · go_wp2_with fail; go_meet; exact ⟨rfl, Below.refl _ _⟩
          · obtain ⟨rfl, rfl, rfl⟩ := H2'.out rfl
            go_wp2_with fail; go_meet; exact ⟨rfl, Below.refl _ _⟩
      case rest =>
        as_aux_lemma =>
          obtain ⟨rfl, hcut⟩ := hcut
          obtain ⟨w15, rfl⟩ : ∃ w15, w15 = wc := ⟨_, rfl⟩
          have hB15 : Below w.heap.size w w15 := Below.after (by first | (go_grown; done) | (refine below_drewN ?_ _; go_grown; done)) hcut
          have hs15 : w.heap.size ≤ w15.heap.size := hB15.size
          have hz15_0 : w.heap.size < w15.heap.size := by have := hcut.size; (try simp at this); omega
          have hz15_1 : w.heap.size + 1 < w15.heap.size := by have := hcut.size; (try simp at this); omega
          have hz15_2 : w.heap.size + 1 + 1 < w15.heap.size := by have := hcut.size; (try simp at this); omega
          have hz15_3 : w2.heap.size < w15.heap.size := by have := hcut.size; (try simp at this); omega
          have hz15_4 : w3.heap.size < w15.heap.size := by have := hcut.size; (try simp at this); omega
          have hz15_5 : w4.heap.size < w15.heap.size := by have := hcut.size; (try simp at this); omega
          have hz15_6 : w5.heap.size < w15.heap.size := by have := hcut.size; (try simp at this); omega
          have hz15_7 : w13.heap.size < w15.heap.size := by have := hcut.size; (try simp at this); omega
          have hc15_0 : w15.cell? ⟨w.heap.size, 0, none⟩ = some (.int .i64 a) := (hcut.cell (p := ⟨w.heap.size, 0, none⟩) (by first | omega | (simp; done) | (simp; omega))).trans (by simp [go_sem, *])
          have hc15_1 : w15.cell? ⟨w.heap.size, 1, none⟩ = some (.int .i64 b) := (hcut.cell (p := ⟨w.heap.size, 1, none⟩) (by first | omega | (simp; done) | (simp; omega))).trans (by simp [go_sem, *])
          have hc15_2 : w15.cell? ⟨w.heap.size + 1, 0, none⟩ = some (.int .i64 c) := (hcut.cell (p := ⟨w.heap.size + 1, 0, none⟩) (by first | omega | (simp; done) | (simp; omega))).trans (by simp [go_sem, *])
          have hc15_3 : w15.cell? ⟨w.heap.size + 1, 1, none⟩ = some (.int .i64 d) := (hcut.cell (p := ⟨w.heap.size + 1, 1, none⟩) (by first | omega | (simp; done) | (simp; omega))).trans (by simp [go_sem, *])
          have hc15_4 : w15.cell? ⟨w.heap.size + 1 + 1, 0, none⟩ = some (.int .i64 e) := (hcut.cell (p := ⟨w.heap.size + 1 + 1, 0, none⟩) (by first | omega | (simp; done) | (simp; omega))).trans (by simp [go_sem, *])
          have hc15_5 : w15.cell? ⟨w.heap.size + 1 + 1, 1, none⟩ = some (.int .i64 f) := (hcut.cell (p := ⟨w.heap.size + 1 + 1, 1, none⟩) (by first | omega | (simp; done) | (simp; omega))).trans (by simp [go_sem, *])
          have hc15_6 : w15.cell? ⟨w2.heap.size, 0, none⟩ = some (.int .i64 A1) := (hcut.cell (p := ⟨w2.heap.size, 0, none⟩) (by first | omega | (simp; done) | (simp; omega))).trans (by simp [go_sem, *])
          have hc15_7 : w15.cell? ⟨w2.heap.size, 1, none⟩ = some (.int .i64 A2) := (hcut.cell (p := ⟨w2.heap.size, 1, none⟩) (by first | omega | (simp; done) | (simp; omega))).trans (by simp [go_sem, *])
          have hc15_8 : w15.cell? ⟨w3.heap.size, 0, none⟩ = some (.int .i64 A1) := (hcut.cell (p := ⟨w3.heap.size, 0, none⟩) (by first | omega | (simp; done) | (simp; omega))).trans (by simp [go_sem, *])
          have hc15_9 : w15.cell? ⟨w3.heap.size, 1, none⟩ = some (.int .i64 A2) := (hcut.cell (p := ⟨w3.heap.size, 1, none⟩) (by first | omega | (simp; done) | (simp; omega))).trans (by simp [go_sem, *])
          have hc15_10 : w15.cell? ⟨w4.heap.size, 0, none⟩ = some (.int .i64 C1) := (hcut.cell (p := ⟨w4.heap.size, 0, none⟩) (by first | omega | (simp; done) | (simp; omega))).trans (by simp [go_sem, *])
          have hc15_11 : w15.cell? ⟨w4.heap.size, 1, none⟩ = some (.int .i64 C2) := (hcut.cell (p := ⟨w4.heap.size, 1, none⟩) (by first | omega | (simp; done) | (simp; omega))).trans (by simp [go_sem, *])
          have hc15_12 : w15.cell? ⟨w5.heap.size, 0, none⟩ = some (.int .i64 C1) := (hcut.cell (p := ⟨w5.heap.size, 0, none⟩) (by first | omega | (simp; done) | (simp; omega))).trans (by simp [go_sem, *])
          have hc15_13 : w15.cell? ⟨w5.heap.size, 1, none⟩ = some (.int .i64 C2) := (hcut.cell (p := ⟨w5.heap.size, 1, none⟩) (by first | omega | (simp; done) | (simp; omega))).trans (by simp [go_sem, *])
          have hc15_14 : w15.cell? ⟨w13.heap.size, 0, none⟩ = some (.int .i64 B1) := (hcut.cell (p := ⟨w13.heap.size, 0, none⟩) (by first | omega | (simp; done) | (simp; omega))).trans (by simp [go_sem, *])
          have hc15_15 : w15.cell? ⟨w13.heap.size, 1, none⟩ = some (.int .i64 B2) := (hcut.cell (p := ⟨w13.heap.size, 1, none⟩) (by first | omega | (simp; done) | (simp; omega))).trans (by simp [go_sem, *])
          clear hc14_0 hc14_1 hc14_2 hc14_3 hc14_4 hc14_5 hc14_6 hc14_7 hc14_8 hc14_9 hc14_10 hc14_11 hc14_12 hc14_13 hc14_14 hc14_15
          clear hcut
          go_wp2_with fail
          refine (K5.out _).mono ?_
          rintro e w16 ⟨rfl, hb16⟩
          have hB16 : Below w.heap.size w w16 := Below.after (by first | (go_grown; done) | (refine below_drewN ?_ _; go_grown; done)) hb16
          have hs16 : w.heap.size ≤ w16.heap.size := hB16.size
          have hz16_0 : w.heap.size < w16.heap.size := by have := hb16.size; (try simp at this); omega
          have hz16_1 : w.heap.size + 1 < w16.heap.size := by have := hb16.size; (try simp at this); omega
          have hz16_2 : w.heap.size + 1 + 1 < w16.heap.size := by have := hb16.size; (try simp at this); omega
          have hz16_3 : w2.heap.size < w16.heap.size := by have := hb16.size; (try simp at this); omega
          have hz16_4 : w3.heap.size < w16.heap.size := by have := hb16.size; (try simp at this); omega
          have hz16_5 : w4.heap.size < w16.heap.size := by have := hb16.size; (try simp at this); omega
          have hz16_6 : w5.heap.size < w16.heap.size := by have := hb16.size; (try simp at this); omega
          have hz16_7 : w13.heap.size < w16.heap.size := by have := hb16.size; (try simp at this); omega
          have hc16_0 : w16.cell? ⟨w.heap.size, 0, none⟩ = some (.int .i64 a) := (hb16.cell (p := ⟨w.heap.size, 0, none⟩) (by first | omega | (simp; done) | (simp; omega))).trans (by simp [go_sem, *])
          have hc16_1 : w16.cell? ⟨w.heap.size, 1, none⟩ = some (.int .i64 b) := (hb16.cell (p := ⟨w.heap.size, 1, none⟩) (by first | omega | (simp; done) | (simp; omega))).trans (by simp [go_sem, *])
          have hc16_2 : w16.cell? ⟨w.heap.size + 1, 0, none⟩ = some (.int .i64 c) := (hb16.cell (p := ⟨w.heap.size + 1, 0, none⟩) (by first | omega | (simp; done) | (simp; omega))).trans (by simp [go_sem, *])
          have hc16_3 : w16.cell? ⟨w.heap.size + 1, 1, none⟩ = some (.int .i64 d) := (hb16.cell (p := ⟨w.heap.size + 1, 1, none⟩) (by first | omega | (simp; done) | (simp; omega))).trans (by simp [go_sem, *])
          have hc16_4 : w16.cell? ⟨w.heap.size + 1 + 1, 0, none⟩ = some (.int .i64 e) := (hb16.cell (p := ⟨w.heap.size + 1 + 1, 0, none⟩) (by first | omega | (simp; done) | (simp; omega))).trans (by simp [go_sem, *])
          have hc16_5 : w16.cell? ⟨w.heap.size + 1 + 1, 1, none⟩ = some (.int .i64 f) := (hb16.cell (p := ⟨w.heap.size + 1 + 1, 1, none⟩) (by first | omega | (simp; done) | (simp; omega))).trans (by simp [go_sem, *])
          have hc16_6 : w16.cell? ⟨w2.heap.size, 0, none⟩ = some (.int .i64 A1) := (hb16.cell (p := ⟨w2.heap.size, 0, none⟩) (by first | omega | (simp; done) | (simp; omega))).trans (by simp [go_sem, *])
          have hc16_7 : w16.cell? ⟨w2.heap.size, 1, none⟩ = some (.int .i64 A2) := (hb16.cell (p := ⟨w2.heap.size, 1, none⟩) (by first | omega | (simp; done) | (simp; omega))).trans (by simp [go_sem, *])
          have hc16_8 : w16.cell? ⟨w3.heap.size, 0, none⟩ = some (.int .i64 A1) := (hb16.cell (p := ⟨w3.heap.size, 0, none⟩) (by first | omega | (simp; done) | (simp; omega))).trans (by simp [go_sem, *])
          have hc16_9 : w16.cell? ⟨w3.heap.size, 1, none⟩ = some (.int .i64 A2) := (hb16.cell (p := ⟨w3.heap.size, 1, none⟩) (by first | omega | (simp; done) | (simp; omega))).trans (by simp [go_sem, *])
          have hc16_10 : w16.cell? ⟨w4.heap.size, 0, none⟩ = some (.int .i64 C1) := (hb16.cell (p := ⟨w4.heap.size, 0, none⟩) (by first | omega | (simp; done) | (simp; omega))).trans (by simp [go_sem, *])
          have hc16_11 : w16.cell? ⟨w4.heap.size, 1, none⟩ = some (.int .i64 C2) := (hb16.cell (p := ⟨w4.heap.size, 1, none⟩) (by first | omega | (simp; done) | (simp; omega))).trans (by simp [go_sem, *])
          have hc16_12 : w16.cell? ⟨w5.heap.size, 0, none⟩ = some (.int .i64 C1) := (hb16.cell (p := ⟨w5.heap.size, 0, none⟩) (by first | omega | (simp; done) | (simp; omega))).trans (by simp [go_sem, *])
          have hc16_13 : w16.cell? ⟨w5.heap.size, 1, none⟩ = some (.int .i64 C2) := (hb16.cell (p := ⟨w5.heap.size, 1, none⟩) (by first | omega | (simp; done) | (simp; omega))).trans (by simp [go_sem, *])
          have hc16_14 : w16.cell? ⟨w13.heap.size, 0, none⟩ = some (.int .i64 B1) := (hb16.cell (p := ⟨w13.heap.size, 0, none⟩) (by first | omega | (simp; done) | (simp; omega))).trans (by simp [go_sem, *])
          have hc16_15 : w16.cell? ⟨w13.heap.size, 1, none⟩ = some (.int .i64 B2) := (hb16.cell (p := ⟨w13.heap.size, 1, none⟩) (by first | omega | (simp; done) | (simp; omega))).trans (by simp [go_sem, *])
          clear hc15_0 hc15_1 hc15_2 hc15_3 hc15_4 hc15_5 hc15_6 hc15_7 hc15_8 hc15_9 hc15_10 hc15_11 hc15_12 hc15_13 hc15_14 hc15_15
          clear hb16
          go_wp2_with fail
          refine (K6.out _).mono ?_
          rintro e w17 ⟨rfl, hb17⟩
          have hB17 : Below w.heap.size w w17 := Below.after (by first | (go_grown; done) | (refine below_drewN ?_ _; go_grown; done)) hb17
          have hs17 : w.heap.size ≤ w17.heap.size := hB17.size
          have hz17_0 : w.heap.size < w17.heap.size := by have := hb17.size; (try simp at this); omega
          have hz17_1 : w.heap.size + 1 < w17.heap.size := by have := hb17.size; (try simp at this); omega
          have hz17_2 : w.heap.size + 1 + 1 < w17.heap.size := by have := hb17.size; (try simp at this); omega
          have hz17_3 : w2.heap.size < w17.heap.size := by have := hb17.size; (try simp at this); omega
          have hz17_4 : w3.heap.size < w17.heap.size := by have := hb17.size; (try simp at this); omega
          have hz17_5 : w4.heap.size < w17.heap.size := by have := hb17.size; (try simp at this); omega
          have hz17_6 : w5.heap.size < w17.heap.size := by have := hb17.size; (try simp at this); omega
          have hz17_7 : w13.heap.size < w17.heap.size := by have := hb17.size; (try simp at this); omega
          have hz17_8 : w16.heap.size < w17.heap.size := by have := hb17.size; (try simp at this); omega
          have hc17_0 : w17.cell? ⟨w.heap.size, 0, none⟩ = some (.int .i64 a) := (hb17.cell (p := ⟨w.heap.size, 0, none⟩) (by first | omega | (simp; done) | (simp; omega))).trans (by simp [go_sem, *])
          have hc17_1 : w17.cell? ⟨w.heap.size, 1, none⟩ = some (.int .i64 b) := (hb17.cell (p := ⟨w.heap.size, 1, none⟩) (by first | omega | (simp; done) | (simp; omega))).trans (by simp [go_sem, *])
          have hc17_2 : w17.cell? ⟨w.heap.size + 1, 0, none⟩ = some (.int .i64 c) := (hb17.cell (p := ⟨w.heap.size + 1, 0, none⟩) (by first | omega | (simp; done) | (simp; omega))).trans (by simp [go_sem, *])
          have hc17_3 : w17.cell? ⟨w.heap.size + 1, 1, none⟩ = some (.int .i64 d) := (hb17.cell (p := ⟨w.heap.size + 1, 1, none⟩) (by first | omega | (simp; done) | (simp; omega))).trans (by simp [go_sem, *])
          have hc17_4 : w17.cell? ⟨w.heap.size + 1 + 1, 0, none⟩ = some (.int .i64 e) := (hb17.cell (p := ⟨w.heap.size + 1 + 1, 0, none⟩) (by first | omega | (simp; done) | (simp; omega))).trans (by simp [go_sem, *])
          have hc17_5 : w17.cell? ⟨w.heap.size + 1 + 1, 1, none⟩ = some (.int .i64 f) := (hb17.cell (p := ⟨w.heap.size + 1 + 1, 1, none⟩) (by first | omega | (simp; done) | (simp; omega))).trans (by simp [go_sem, *])
          have hc17_6 : w17.cell? ⟨w2.heap.size, 0, none⟩ = some (.int .i64 A1) := (hb17.cell (p := ⟨w2.heap.size, 0, none⟩) (by first | omega | (simp; done) | (simp; omega))).trans (by simp [go_sem, *])
          have hc17_7 : w17.cell? ⟨w2.heap.size, 1, none⟩ = some (.int .i64 A2) := (hb17.cell (p := ⟨w2.heap.size, 1, none⟩) (by first | omega | (simp; done) | (simp; omega))).trans (by simp [go_sem, *])
          have hc17_8 : w17.cell? ⟨w3.heap.size, 0, none⟩ = some (.int .i64 A1) := (hb17.cell (p := ⟨w3.heap.size, 0, none⟩) (by first | omega | (simp; done) | (simp; omega))).trans (by simp [go_sem, *])
          have hc17_9 : w17.cell? ⟨w3.heap.size, 1, none⟩ = some (.int .i64 A2) := (hb17.cell (p := ⟨w3.heap.size, 1, none⟩) (by first | omega | (simp; done) | (simp; omega))).trans (by simp [go_sem, *])
          have hc17_10 : w17.cell? ⟨w4.heap.size, 0, none⟩ = some (.int .i64 C1) := (hb17.cell (p := ⟨w4.heap.size, 0, none⟩) (by first | omega | (simp; done) | (simp; omega))).trans (by simp [go_sem, *])
          have hc17_11 : w17.cell? ⟨w4.heap.size, 1, none⟩ = some (.int .i64 C2) := (hb17.cell (p := ⟨w4.heap.size, 1, none⟩) (by first | omega | (simp; done) | (simp; omega))).trans (by simp [go_sem, *])
          have hc17_12 : w17.cell? ⟨w5.heap.size, 0, none⟩ = some (.int .i64 C1) := (hb17.cell (p := ⟨w5.heap.size, 0, none⟩) (by first | omega | (simp; done) | (simp; omega))).trans (by simp [go_sem, *])
          have hc17_13 : w17.cell? ⟨w5.heap.size, 1, none⟩ = some (.int .i64 C2) := (hb17.cell (p := ⟨w5.heap.size, 1, none⟩) (by first | omega | (simp; done) | (simp; omega))).trans (by simp [go_sem, *])
          have hc17_14 : w17.cell? ⟨w13.heap.size, 0, none⟩ = some (.int .i64 B1) := (hb17.cell (p := ⟨w13.heap.size, 0, none⟩) (by first | omega | (simp; done) | (simp; omega))).trans (by simp [go_sem, *])
          have hc17_15 : w17.cell? ⟨w13.heap.size, 1, none⟩ = some (.int .i64 B2) := (hb17.cell (p := ⟨w13.heap.size, 1, none⟩) (by first | omega | (simp; done) | (simp; omega))).trans (by simp [go_sem, *])
          have hc17_16 : w17.cell? ⟨w16.heap.size, 0, none⟩ = some (.int .i64 D1) := (hb17.cell (p := ⟨w16.heap.size, 0, none⟩) (by first | omega | (simp; done) | (simp; omega))).trans (by simp [go_sem, *])
          have hc17_17 : w17.cell? ⟨w16.heap.size, 1, none⟩ = some (.int .i64 D2) := (hb17.cell (p := ⟨w16.heap.size, 1, none⟩) (by first | omega | (simp; done) | (simp; omega))).trans (by simp [go_sem, *])
          clear hc16_0 hc16_1 hc16_2 hc16_3 hc16_4 hc16_5 hc16_6 hc16_7 hc16_8 hc16_9 hc16_10 hc16_11 hc16_12 hc16_13 hc16_14 hc16_15
          clear hb17
          go_wp2_with fail
          refine (K7.out _).mono ?_
          rintro e w18 ⟨rfl, hb18⟩
          have hB18 : Below w.heap.size w w18 := Below.after (by first | (go_grown; done) | (refine below_drewN ?_ _; go_grown; done)) hb18
          have hs18 : w.heap.size ≤ w18.heap.size := hB18.size
          have hz18_0 : w.heap.size < w18.heap.size := by have := hb18.size; (try simp at this); omega
          have hz18_1 : w.heap.size + 1 < w18.heap.size := by have := hb18.size; (try simp at this); omega
          have hz18_2 : w.heap.size + 1 + 1 < w18.heap.size := by have := hb18.size; (try simp at this); omega
          have hz18_3 : w2.heap.size < w18.heap.size := by have := hb18.size; (try simp at this); omega
          have hz18_4 : w3.heap.size < w18.heap.size := by have := hb18.size; (try simp at this); omega
          have hz18_5 : w4.heap.size < w18.heap.size := by have := hb18.size; (try simp at this); omega
          have hz18_6 : w5.heap.size < w18.heap.size := by have := hb18.size; (try simp at this); omega
          have hz18_7 : w13.heap.size < w18.heap.size := by have := hb18.size; (try simp at this); omega
          have hz18_8 : w16.heap.size < w18.heap.size := by have := hb18.size; (try simp at this); omega
          have hz18_9 : w17.heap.size < w18.heap.size := by have := hb18.size; (try simp at this); omega
          have hc18_0 : w18.cell? ⟨w.heap.size, 0, none⟩ = some (.int .i64 a) := (hb18.cell (p := ⟨w.heap.size, 0, none⟩) (by first | omega | (simp; done) | (simp; omega))).trans (by simp [go_sem, *])
          have hc18_1 : w18.cell? ⟨w.heap.size, 1, none⟩ = some (.int .i64 b) := (hb18.cell (p := ⟨w.heap.size, 1, none⟩) (by first | omega | (simp; done) | (simp; omega))).trans (by simp [go_sem, *])
          have hc18_2 : w18.cell? ⟨w.heap.size + 1, 0, none⟩ = some (.int .i64 c) := (hb18.cell (p := ⟨w.heap.size + 1, 0, none⟩) (by first | omega | (simp; done) | (simp; omega))).trans (by simp [go_sem, *])
          have hc18_3 : w18.cell? ⟨w.heap.size + 1, 1, none⟩ = some (.int .i64 d) := (hb18.cell (p := ⟨w.heap.size + 1, 1, none⟩) (by first | omega | (simp; done) | (simp; omega))).trans (by simp [go_sem, *])
          have hc18_4 : w18.cell? ⟨w.heap.size + 1 + 1, 0, none⟩ = some (.int .i64 e) := (hb18.cell (p := ⟨w.heap.size + 1 + 1, 0, none⟩) (by first | omega | (simp; done) | (simp; omega))).trans (by simp [go_sem, *])
          have hc18_5 : w18.cell? ⟨w.heap.size + 1 + 1, 1, none⟩ = some (.int .i64 f) := (hb18.cell (p := ⟨w.heap.size + 1 + 1, 1, none⟩) (by first | omega | (simp; done) | (simp; omega))).trans (by simp [go_sem, *])
          have hc18_6 : w18.cell? ⟨w2.heap.size, 0, none⟩ = some (.int .i64 A1) := (hb18.cell (p := ⟨w2.heap.size, 0, none⟩) (by first | omega | (simp; done) | (simp; omega))).trans (by simp [go_sem, *])
          have hc18_7 : w18.cell? ⟨w2.heap.size, 1, none⟩ = some (.int .i64 A2) := (hb18.cell (p := ⟨w2.heap.size, 1, none⟩) (by first | omega | (simp; done) | (simp; omega))).trans (by simp [go_sem, *])
          have hc18_8 : w18.cell? ⟨w3.heap.size, 0, none⟩ = some (.int .i64 A1) := (hb18.cell (p := ⟨w3.heap.size, 0, none⟩) (by first | omega | (simp; done) | (simp; omega))).trans (by simp [go_sem, *])
          have hc18_9 : w18.cell? ⟨w3.heap.size, 1, none⟩ = some (.int .i64 A2) := (hb18.cell (p := ⟨w3.heap.size, 1, none⟩) (by first | omega | (simp; done) | (simp; omega))).trans (by simp [go_sem, *])
          have hc18_10 : w18.cell? ⟨w4.heap.size, 0, none⟩ = some (.int .i64 C1) := (hb18.cell (p := ⟨w4.heap.size, 0, none⟩) (by first | omega | (simp; done) | (simp; omega))).trans (by simp [go_sem, *])
          have hc18_11 : w18.cell? ⟨w4.heap.size, 1, none⟩ = some (.int .i64 C2) := (hb18.cell (p := ⟨w4.heap.size, 1, none⟩) (by first | omega | (simp; done) | (simp; omega))).trans (by simp [go_sem, *])
          have hc18_12 : w18.cell? ⟨w5.heap.size, 0, none⟩ = some (.int .i64 C1) := (hb18.cell (p := ⟨w5.heap.size, 0, none⟩) (by first | omega | (simp; done) | (simp; omega))).trans (by simp [go_sem, *])
          have hc18_13 : w18.cell? ⟨w5.heap.size, 1, none⟩ = some (.int .i64 C2) := (hb18.cell (p := ⟨w5.heap.size, 1, none⟩) (by first | omega | (simp; done) | (simp; omega))).trans (by simp [go_sem, *])
          have hc18_14 : w18.cell? ⟨w13.heap.size, 0, none⟩ = some (.int .i64 B1) := (hb18.cell (p := ⟨w13.heap.size, 0, none⟩) (by first | omega | (simp; done) | (simp; omega))).trans (by simp [go_sem, *])
          have hc18_15 : w18.cell? ⟨w13.heap.size, 1, none⟩ = some (.int .i64 B2) := (hb18.cell (p := ⟨w13.heap.size, 1, none⟩) (by first | omega | (simp; done) | (simp; omega))).trans (by simp [go_sem, *])
          have hc18_16 : w18.cell? ⟨w16.heap.size, 0, none⟩ = some (.int .i64 D1) := (hb18.cell (p := ⟨w16.heap.size, 0, none⟩) (by first | omega | (simp; done) | (simp; omega))).trans (by simp [go_sem, *])
          have hc18_17 : w18.cell? ⟨w16.heap.size, 1, none⟩ = some (.int .i64 D2) := (hb18.cell (p := ⟨w16.heap.size, 1, none⟩) (by first | omega | (simp; done) | (simp; omega))).trans (by simp [go_sem, *])
          have hc18_18 : w18.cell? ⟨w17.heap.size, 0, none⟩ = some (.int .i64 L1) := (hb18.cell (p := ⟨w17.heap.size, 0, none⟩) (by first | omega | (simp; done) | (simp; omega))).trans (by simp [go_sem, *])
          have hc18_19 : w18.cell? ⟨w17.heap.size, 1, none⟩ = some (.int .i64 L2) := (hb18.cell (p := ⟨w17.heap.size, 1, none⟩) (by first | omega | (simp; done) | (simp; omega))).trans (by simp [go_sem, *])
          have hf18_0 : w18.frozen? ⟨w17.heap.size, 0, none⟩ = false := (hb18.frozen (p := ⟨w17.heap.size, 0, none⟩) (by first | omega | (simp; done) | (simp; omega))).trans (by simp [go_sem, *])
          have hf18_1 : w18.frozen? ⟨w17.heap.size, 1, none⟩ = false := (hb18.frozen (p := ⟨w17.heap.size, 1, none⟩) (by first | omega | (simp; done) | (simp; omega))).trans (by simp [go_sem, *])
          clear hc17_0 hc17_1 hc17_2 hc17_3 hc17_4 hc17_5 hc17_6 hc17_7 hc17_8 hc17_9 hc17_10 hc17_11 hc17_12 hc17_13 hc17_14 hc17_15 hc17_16 hc17_17
          clear hb18
          go_upto_region 15 with fail
          obtain ⟨w19, hw19⟩ : ∃ w19, w19 = w18.alloc (.cells #[.int .i64 R1, .int .i64 R2] 52) := ⟨_, rfl⟩
          rw [← hw19]
          have hB19 : Below w.heap.size w w19 := by rw [hw19]; go_grown
          have hs19 : w.heap.size ≤ w19.heap.size := hB19.size
          have hz19_0 : w.heap.size < w19.heap.size := by rw [hw19]; first | (simp; done) | (simp; omega) | omega
          have hz19_1 : w.heap.size + 1 < w19.heap.size := by rw [hw19]; first | (simp; done) | (simp; omega) | omega
          have hz19_2 : w.heap.size + 1 + 1 < w19.heap.size := by rw [hw19]; first | (simp; done) | (simp; omega) | omega
          have hz19_3 : w2.heap.size < w19.heap.size := by rw [hw19]; first | (simp; done) | (simp; omega) | omega
          have hz19_4 : w3.heap.size < w19.heap.size := by rw [hw19]; first | (simp; done) | (simp; omega) | omega
          have hz19_5 : w4.heap.size < w19.heap.size := by rw [hw19]; first | (simp; done) | (simp; omega) | omega
          have hz19_6 : w5.heap.size < w19.heap.size := by rw [hw19]; first | (simp; done) | (simp; omega) | omega
          have hz19_7 : w13.heap.size < w19.heap.size := by rw [hw19]; first | (simp; done) | (simp; omega) | omega
          have hz19_8 : w16.heap.size < w19.heap.size := by rw [hw19]; first | (simp; done) | (simp; omega) | omega
          have hz19_9 : w17.heap.size < w19.heap.size := by rw [hw19]; first | (simp; done) | (simp; omega) | omega
          have hz19_10 : w18.heap.size < w19.heap.size := by rw [hw19]; first | (simp; done) | (simp; omega) | omega
          have hc19_0 : w19.cell? ⟨w.heap.size, 0, none⟩ = some (.int .i64 a) := by rw [hw19]; simp [go_sem, *]
          have hc19_1 : w19.cell? ⟨w.heap.size, 1, none⟩ = some (.int .i64 b) := by rw [hw19]; simp [go_sem, *]
          have hc19_2 : w19.cell? ⟨w.heap.size + 1, 0, none⟩ = some (.int .i64 c) := by rw [hw19]; simp [go_sem, *]
          have hc19_3 : w19.cell? ⟨w.heap.size + 1, 1, none⟩ = some (.int .i64 d) := by rw [hw19]; simp [go_sem, *]
          have hc19_4 : w19.cell? ⟨w.heap.size + 1 + 1, 0, none⟩ = some (.int .i64 e) := by rw [hw19]; simp [go_sem, *]
          have hc19_5 : w19.cell? ⟨w.heap.size + 1 + 1, 1, none⟩ = some (.int .i64 f) := by rw [hw19]; simp [go_sem, *]
          have hc19_6 : w19.cell? ⟨w2.heap.size, 0, none⟩ = some (.int .i64 A1) := by rw [hw19]; simp [go_sem, *]
          have hc19_7 : w19.cell? ⟨w2.heap.size, 1, none⟩ = some (.int .i64 A2) := by rw [hw19]; simp [go_sem, *]
          have hc19_8 : w19.cell? ⟨w3.heap.size, 0, none⟩ = some (.int .i64 A1) := by rw [hw19]; simp [go_sem, *]
          have hc19_9 : w19.cell? ⟨w3.heap.size, 1, none⟩ = some (.int .i64 A2) := by rw [hw19]; simp [go_sem, *]
          have hc19_10 : w19.cell? ⟨w4.heap.size, 0, none⟩ = some (.int .i64 C1) := by rw [hw19]; simp [go_sem, *]
          have hc19_11 : w19.cell? ⟨w4.heap.size, 1, none⟩ = some (.int .i64 C2) := by rw [hw19]; simp [go_sem, *]
          have hc19_12 : w19.cell? ⟨w5.heap.size, 0, none⟩ = some (.int .i64 C1) := by rw [hw19]; simp [go_sem, *]
          have hc19_13 : w19.cell? ⟨w5.heap.size, 1, none⟩ = some (.int .i64 C2) := by rw [hw19]; simp [go_sem, *]
          have hc19_14 : w19.cell? ⟨w13.heap.size, 0, none⟩ = some (.int .i64 B1) := by rw [hw19]; simp [go_sem, *]
          have hc19_15 : w19.cell? ⟨w13.heap.size, 1, none⟩ = some (.int .i64 B2) := by rw [hw19]; simp [go_sem, *]
          have hc19_16 : w19.cell? ⟨w16.heap.size, 0, none⟩ = some (.int .i64 D1) := by rw [hw19]; simp [go_sem, *]
          have hc19_17 : w19.cell? ⟨w16.heap.size, 1, none⟩ = some (.int .i64 D2) := by rw [hw19]; simp [go_sem, *]
          have hc19_18 : w19.cell? ⟨w17.heap.size, 0, none⟩ = some (.int .i64 L1) := by rw [hw19]; simp [go_sem, *]
          have hc19_19 : w19.cell? ⟨w17.heap.size, 1, none⟩ = some (.int .i64 L2) := by rw [hw19]; simp [go_sem, *]
          have hc19_20 : w19.cell? ⟨w18.heap.size, 0, none⟩ = some (.int .i64 R1) := by rw [hw19]; simp [go_sem, *]
          have hc19_21 : w19.cell? ⟨w18.heap.size, 1, none⟩ = some (.int .i64 R2) := by rw [hw19]; simp [go_sem, *]
          have hf19_0 : w19.frozen? ⟨w17.heap.size, 0, none⟩ = false := by rw [hw19]; simp [go_sem, *]
          have hf19_1 : w19.frozen? ⟨w17.heap.size, 1, none⟩ = false := by rw [hw19]; simp [go_sem, *]
          have hf19_2 : w19.frozen? ⟨w18.heap.size, 0, none⟩ = false := by rw [hw19]; simp [go_sem, *]
          have hf19_3 : w19.frozen? ⟨w18.heap.size, 1, none⟩ = false := by rw [hw19]; simp [go_sem, *]
          clear hc18_0 hc18_1 hc18_2 hc18_3 hc18_4 hc18_5 hc18_6 hc18_7 hc18_8 hc18_9 hc18_10 hc18_11 hc18_12 hc18_13 hc18_14 hc18_15 hc18_16 hc18_17 hc18_18 hc18_19 hf18_0 hf18_1
          clear hw19
          go_cut [139] (fun sx wx => sx = .bool false ∧ Below w19.heap.size w19 wx)
          case first =>
            as_aux_lemma =>
              cases i
              · go_wp2_with fail; go_meet; exact ⟨rfl, Below.refl _ _⟩
              cases n
              · go_wp2_with fail; go_meet; exact ⟨rfl, Below.refl _ _⟩
              cases o
              · go_wp2_with fail; go_meet; exact ⟨rfl, Below.refl _ _⟩
              cases s
              · go_wp2_with fail; go_meet; exact ⟨rfl, Below.refl _ _⟩
              obtain ⟨rfl, rfl⟩ := H3'.out rfl rfl rfl rfl
              go_wp2_with fail; go_meet; exact ⟨rfl, Below.refl _ _⟩
          case rest =>
            as_aux_lemma =>
              obtain ⟨rfl, hcut⟩ := hcut
              obtain ⟨w20, rfl⟩ : ∃ w20, w20 = wc := ⟨_, rfl⟩
              have hB20 : Below w.heap.size w w20 := Below.after (by first | (go_grown; done) | (refine below_drewN ?_ _; go_grown; done)) hcut
              have hs20 : w.heap.size ≤ w20.heap.size := hB20.size
              have hz20_0 : w.heap.size < w20.heap.size := by have := hcut.size; (try simp at this); omega
              have hz20_1 : w.heap.size + 1 < w20.heap.size := by have := hcut.size; (try simp at this); omega
              have hz20_2 : w.heap.size + 1 + 1 < w20.heap.size := by have := hcut.size; (try simp at this); omega
              have hz20_3 : w2.heap.size < w20.heap.size := by have := hcut.size; (try simp at this); omega
              have hz20_4 : w3.heap.size < w20.heap.size := by have := hcut.size; (try simp at this); omega
              have hz20_5 : w4.heap.size < w20.heap.size := by have := hcut.size; (try simp at this); omega
              have hz20_6 : w5.heap.size < w20.heap.size := by have := hcut.size; (try simp at this); omega
              have hz20_7 : w13.heap.size < w20.heap.size := by have := hcut.size; (try simp at this); omega
              have hz20_8 : w16.heap.size < w20.heap.size := by have := hcut.size; (try simp at this); omega
              have hz20_9 : w17.heap.size < w20.heap.size := by have := hcut.size; (try simp at this); omega
              have hz20_10 : w18.heap.size < w20.heap.size := by have := hcut.size; (try simp at this); omega
              have hc20_0 : w20.cell? ⟨w.heap.size, 0, none⟩ = some (.int .i64 a) := (hcut.cell (p := ⟨w.heap.size, 0, none⟩) (by first | omega | (simp; done) | (simp; omega))).trans (by simp [go_sem, *])
              have hc20_1 : w20.cell? ⟨w.heap.size, 1, none⟩ = some (.int .i64 b) := (hcut.cell (p := ⟨w.heap.size, 1, none⟩) (by first | omega | (simp; done) | (simp; omega))).trans (by simp [go_sem, *])
              have hc20_2 : w20.cell? ⟨w.heap.size + 1, 0, none⟩ = some (.int .i64 c) := (hcut.cell (p := ⟨w.heap.size + 1, 0, none⟩) (by first | omega | (simp; done) | (simp; omega))).trans (by simp [go_sem, *])
              have hc20_3 : w20.cell? ⟨w.heap.size + 1, 1, none⟩ = some (.int .i64 d) := (hcut.cell (p := ⟨w.heap.size + 1, 1, none⟩) (by first | omega | (simp; done) | (simp; omega))).trans (by simp [go_sem, *])
              have hc20_4 : w20.cell? ⟨w.heap.size + 1 + 1, 0, none⟩ = some (.int .i64 e) := (hcut.cell (p := ⟨w.heap.size + 1 + 1, 0, none⟩) (by first | omega | (simp; done) | (simp; omega))).trans (by simp [go_sem, *])
              have hc20_5 : w20.cell? ⟨w.heap.size + 1 + 1, 1, none⟩ = some (.int .i64 f) := (hcut.cell (p := ⟨w.heap.size + 1 + 1, 1, none⟩) (by first | omega | (simp; done) | (simp; omega))).trans (by simp [go_sem, *])
              have hc20_6 : w20.cell? ⟨w2.heap.size, 0, none⟩ = some (.int .i64 A1) := (hcut.cell (p := ⟨w2.heap.size, 0, none⟩) (by first | omega | (simp; done) | (simp; omega))).trans (by simp [go_sem, *])
              have hc20_7 : w20.cell? ⟨w2.heap.size, 1, none⟩ = some (.int .i64 A2) := (hcut.cell (p := ⟨w2.heap.size, 1, none⟩) (by first | omega | (simp; done) | (simp; omega))).trans (by simp [go_sem, *])
              have hc20_8 : w20.cell? ⟨w3.heap.size, 0, none⟩ = some (.int .i64 A1) := (hcut.cell (p := ⟨w3.heap.size, 0, none⟩) (by first | omega | (simp; done) | (simp; omega))).trans (by simp [go_sem, *])
              have hc20_9 : w20.cell? ⟨w3.heap.size, 1, none⟩ = some (.int .i64 A2) := (hcut.cell (p := ⟨w3.heap.size, 1, none⟩) (by first | omega | (simp; done) | (simp; omega))).trans (by simp [go_sem, *])
              have hc20_10 : w20.cell? ⟨w4.heap.size, 0, none⟩ = some (.int .i64 C1) := (hcut.cell (p := ⟨w4.heap.size, 0, none⟩) (by first | omega | (simp; done) | (simp; omega))).trans (by simp [go_sem, *])
              have hc20_11 : w20.cell? ⟨w4.heap.size, 1, none⟩ = some (.int .i64 C2) := (hcut.cell (p := ⟨w4.heap.size, 1, none⟩) (by first | omega | (simp; done) | (simp; omega))).trans (by simp [go_sem, *])
              have hc20_12 : w20.cell? ⟨w5.heap.size, 0, none⟩ = some (.int .i64 C1) := (hcut.cell (p := ⟨w5.heap.size, 0, none⟩) (by first | omega | (simp; done) | (simp; omega))).trans (by simp [go_sem, *])
              have hc20_13 : w20.cell? ⟨w5.heap.size, 1, none⟩ = some (.int .i64 C2) := (hcut.cell (p := ⟨w5.heap.size, 1, none⟩) (by first | omega | (simp; done) | (simp; omega))).trans (by simp [go_sem, *])
              have hc20_14 : w20.cell? ⟨w13.heap.size, 0, none⟩ = some (.int .i64 B1) := (hcut.cell (p := ⟨w13.heap.size, 0, none⟩) (by first | omega | (simp; done) | (simp; omega))).trans (by simp [go_sem, *])
              have hc20_15 : w20.cell? ⟨w13.heap.size, 1, none⟩ = some (.int .i64 B2) := (hcut.cell (p := ⟨w13.heap.size, 1, none⟩) (by first | omega | (simp; done) | (simp; omega))).trans (by simp [go_sem, *])
              have hc20_16 : w20.cell? ⟨w16.heap.size, 0, none⟩ = some (.int .i64 D1) := (hcut.cell (p := ⟨w16.heap.size, 0, none⟩) (by first | omega | (simp; done) | (simp; omega))).trans (by simp [go_sem, *])
              have hc20_17 : w20.cell? ⟨w16.heap.size, 1, none⟩ = some (.int .i64 D2) := (hcut.cell (p := ⟨w16.heap.size, 1, none⟩) (by first | omega | (simp; done) | (simp; omega))).trans (by simp [go_sem, *])
              have hc20_18 : w20.cell? ⟨w17.heap.size, 0, none⟩ = some (.int .i64 L1) := (hcut.cell (p := ⟨w17.heap.size, 0, none⟩) (by first | omega | (simp; done) | (simp; omega))).trans (by simp [go_sem, *])
              have hc20_19 : w20.cell? ⟨w17.heap.size, 1, none⟩ = some (.int .i64 L2) := (hcut.cell (p := ⟨w17.heap.size, 1, none⟩) (by first | omega | (simp; done) | (simp; omega))).trans (by simp [go_sem, *])
              have hc20_20 : w20.cell? ⟨w18.heap.size, 0, none⟩ = some (.int .i64 R1) := (hcut.cell (p := ⟨w18.heap.size, 0, none⟩) (by first | omega | (simp; done) | (simp; omega))).trans (by simp [go_sem, *])
              have hc20_21 : w20.cell? ⟨w18.heap.size, 1, none⟩ = some (.int .i64 R2) := (hcut.cell (p := ⟨w18.heap.size, 1, none⟩) (by first | omega | (simp; done) | (simp; omega))).trans (by simp [go_sem, *])
              have hf20_0 : w20.frozen? ⟨w17.heap.size, 0, none⟩ = false := (hcut.frozen (p := ⟨w17.heap.size, 0, none⟩) (by first | omega | (simp; done) | (simp; omega))).trans (by simp [go_sem, *])
              have hf20_1 : w20.frozen? ⟨w17.heap.size, 1, none⟩ = false := (hcut.frozen (p := ⟨w17.heap.size, 1, none⟩) (by first | omega | (simp; done) | (simp; omega))).trans (by simp [go_sem, *])
              have hf20_2 : w20.frozen? ⟨w18.heap.size, 0, none⟩ = false := (hcut.frozen (p := ⟨w18.heap.size, 0, none⟩) (by first | omega | (simp; done) | (simp; omega))).trans (by simp [go_sem, *])
              have hf20_3 : w20.frozen? ⟨w18.heap.size, 1, none⟩ = false := (hcut.frozen (p := ⟨w18.heap.size, 1, none⟩) (by first | omega | (simp; done) | (simp; omega))).trans (by simp [go_sem, *])
              clear hc19_0 hc19_1 hc19_2 hc19_3 hc19_4 hc19_5 hc19_6 hc19_7 hc19_8 hc19_9 hc19_10 hc19_11 hc19_12 hc19_13 hc19_14 hc19_15 hc19_16 hc19_17 hc19_18 hc19_19 hc19_20 hc19_21 hf19_0 hf19_1 hf19_2 hf19_3
              clear hcut
              go_wp2_with fail
              refine (K8.out _).mono ?_
              rintro e w21 ⟨rfl, hb21⟩
              have hB21 : Below w.heap.size w w21 := Below.after (by first | (go_grown; done) | (refine below_drewN ?_ _; go_grown; done)) hb21
              have hs21 : w.heap.size ≤ w21.heap.size := hB21.size
              have hz21_0 : w.heap.size < w21.heap.size := by have := hb21.size; (try simp at this); omega
              have hz21_1 : w.heap.size + 1 < w21.heap.size := by have := hb21.size; (try simp at this); omega
              have hz21_2 : w.heap.size + 1 + 1 < w21.heap.size := by have := hb21.size; (try simp at this); omega
              have hz21_3 : w2.heap.size < w21.heap.size := by have := hb21.size; (try simp at this); omega
              have hz21_4 : w3.heap.size < w21.heap.size := by have := hb21.size; (try simp at this); omega
              have hz21_5 : w4.heap.size < w21.heap.size := by have := hb21.size; (try simp at this); omega
              have hz21_6 : w5.heap.size < w21.heap.size := by have := hb21.size; (try simp at this); omega
              have hz21_7 : w13.heap.size < w21.heap.size := by have := hb21.size; (try simp at this); omega
              have hz21_8 : w16.heap.size < w21.heap.size := by have := hb21.size; (try simp at this); omega
              have hz21_9 : w17.heap.size < w21.heap.size := by have := hb21.size; (try simp at this); omega
              have hz21_10 : w18.heap.size < w21.heap.size := by have := hb21.size; (try simp at this); omega
              have hc21_0 : w21.cell? ⟨w.heap.size, 0, none⟩ = some (.int .i64 a) := (hb21.cell (p := ⟨w.heap.size, 0, none⟩) (by first | omega | (simp; done) | (simp; omega))).trans (by simp [go_sem, *])
              have hc21_1 : w21.cell? ⟨w.heap.size, 1, none⟩ = some (.int .i64 b) := (hb21.cell (p := ⟨w.heap.size, 1, none⟩) (by first | omega | (simp; done) | (simp; omega))).trans (by simp [go_sem, *])
              have hc21_2 : w21.cell? ⟨w.heap.size + 1, 0, none⟩ = some (.int .i64 c) := (hb21.cell (p := ⟨w.heap.size + 1, 0, none⟩) (by first | omega | (simp; done) | (simp; omega))).trans (by simp [go_sem, *])
              have hc21_3 : w21.cell? ⟨w.heap.size + 1, 1, none⟩ = some (.int .i64 d) := (hb21.cell (p := ⟨w.heap.size + 1, 1, none⟩) (by first | omega | (simp; done) | (simp; omega))).trans (by simp [go_sem, *])
              have hc21_4 : w21.cell? ⟨w.heap.size + 1 + 1, 0, none⟩ = some (.int .i64 e) := (hb21.cell (p := ⟨w.heap.size + 1 + 1, 0, none⟩) (by first | omega | (simp; done) | (simp; omega))).trans (by simp [go_sem, *])
              have hc21_5 : w21.cell? ⟨w.heap.size + 1 + 1, 1, none⟩ = some (.int .i64 f) := (hb21.cell (p := ⟨w.heap.size + 1 + 1, 1, none⟩) (by first | omega | (simp; done) | (simp; omega))).trans (by simp [go_sem, *])
              have hc21_6 : w21.cell? ⟨w2.heap.size, 0, none⟩ = some (.int .i64 A1) := (hb21.cell (p := ⟨w2.heap.size, 0, none⟩) (by first | omega | (simp; done) | (simp; omega))).trans (by simp [go_sem, *])
              have hc21_7 : w21.cell? ⟨w2.heap.size, 1, none⟩ = some (.int .i64 A2) := (hb21.cell (p := ⟨w2.heap.size, 1, none⟩) (by first | omega | (simp; done) | (simp; omega))).trans (by simp [go_sem, *])
              have hc21_8 : w21.cell? ⟨w3.heap.size, 0, none⟩ = some (.int .i64 A1) := (hb21.cell (p := ⟨w3.heap.size, 0, none⟩) (by first | omega | (simp; done) | (simp; omega))).trans (by simp [go_sem, *])
              have hc21_9 : w21.cell? ⟨w3.heap.size, 1, none⟩ = some (.int .i64 A2) := (hb21.cell (p := ⟨w3.heap.size, 1, none⟩) (by first | omega | (simp; done) | (simp; omega))).trans (by simp [go_sem, *])
              have hc21_10 : w21.cell? ⟨w4.heap.size, 0, none⟩ = some (.int .i64 C1) := (hb21.cell (p := ⟨w4.heap.size, 0, none⟩) (by first | omega | (simp; done) | (simp; omega))).trans (by simp [go_sem, *])
              have hc21_11 : w21.cell? ⟨w4.heap.size, 1, none⟩ = some (.int .i64 C2) := (hb21.cell (p := ⟨w4.heap.size, 1, none⟩) (by first | omega | (simp; done) | (simp; omega))).trans (by simp [go_sem, *])
              have hc21_12 : w21.cell? ⟨w5.heap.size, 0, none⟩ = some (.int .i64 C1) := (hb21.cell (p := ⟨w5.heap.size, 0, none⟩) (by first | omega | (simp; done) | (simp; omega))).trans (by simp [go_sem, *])
              have hc21_13 : w21.cell? ⟨w5.heap.size, 1, none⟩ = some (.int .i64 C2) := (hb21.cell (p := ⟨w5.heap.size, 1, none⟩) (by first | omega | (simp; done) | (simp; omega))).trans (by simp [go_sem, *])
              have hc21_14 : w21.cell? ⟨w13.heap.size, 0, none⟩ = some (.int .i64 B1) := (hb21.cell (p := ⟨w13.heap.size, 0, none⟩) (by first | omega | (simp; done) | (simp; omega))).trans (by simp [go_sem, *])
              have hc21_15 : w21.cell? ⟨w13.heap.size, 1, none⟩ = some (.int .i64 B2) := (hb21.cell (p := ⟨w13.heap.size, 1, none⟩) (by first | omega | (simp; done) | (simp; omega))).trans (by simp [go_sem, *])
              have hc21_16 : w21.cell? ⟨w16.heap.size, 0, none⟩ = some (.int .i64 D1) := (hb21.cell (p := ⟨w16.heap.size, 0, none⟩) (by first | omega | (simp; done) | (simp; omega))).trans (by simp [go_sem, *])
              have hc21_17 : w21.cell? ⟨w16.heap.size, 1, none⟩ = some (.int .i64 D2) := (hb21.cell (p := ⟨w16.heap.size, 1, none⟩) (by first | omega | (simp; done) | (simp; omega))).trans (by simp [go_sem, *])
              have hc21_18 : w21.cell? ⟨w17.heap.size, 0, none⟩ = some (.int .i64 L1) := (hb21.cell (p := ⟨w17.heap.size, 0, none⟩) (by first | omega | (simp; done) | (simp; omega))).trans (by simp [go_sem, *])
              have hc21_19 : w21.cell? ⟨w17.heap.size, 1, none⟩ = some (.int .i64 L2) := (hb21.cell (p := ⟨w17.heap.size, 1, none⟩) (by first | omega | (simp; done) | (simp; omega))).trans (by simp [go_sem, *])
              have hc21_20 : w21.cell? ⟨w18.heap.size, 0, none⟩ = some (.int .i64 R1) := (hb21.cell (p := ⟨w18.heap.size, 0, none⟩) (by first | omega | (simp; done) | (simp; omega))).trans (by simp [go_sem, *])
              have hc21_21 : w21.cell? ⟨w18.heap.size, 1, none⟩ = some (.int .i64 R2) := (hb21.cell (p := ⟨w18.heap.size, 1, none⟩) (by first | omega | (simp; done) | (simp; omega))).trans (by simp [go_sem, *])
              have hf21_0 : w21.frozen? ⟨w17.heap.size, 0, none⟩ = false := (hb21.frozen (p := ⟨w17.heap.size, 0, none⟩) (by first | omega | (simp; done) | (simp; omega))).trans (by simp [go_sem, *])
              have hf21_1 : w21.frozen? ⟨w17.heap.size, 1, none⟩ = false := (hb21.frozen (p := ⟨w17.heap.size, 1, none⟩) (by first | omega | (simp; done) | (simp; omega))).trans (by simp [go_sem, *])
              have hf21_2 : w21.frozen? ⟨w18.heap.size, 0, none⟩ = false := (hb21.frozen (p := ⟨w18.heap.size, 0, none⟩) (by first | omega | (simp; done) | (simp; omega))).trans (by simp [go_sem, *])
              have hf21_3 : w21.frozen? ⟨w18.heap.size, 1, none⟩ = false := (hb21.frozen (p := ⟨w18.heap.size, 1, none⟩) (by first | omega | (simp; done) | (simp; omega))).trans (by simp [go_sem, *])
              clear hc20_0 hc20_1 hc20_2 hc20_3 hc20_4 hc20_5 hc20_6 hc20_7 hc20_8 hc20_9 hc20_10 hc20_11 hc20_12 hc20_13 hc20_14 hc20_15 hc20_16 hc20_17 hc20_18 hc20_19 hc20_20 hc20_21 hf20_0 hf20_1 hf20_2 hf20_3
              clear hb21
              go_wp2_with fail
              refine (K9.out _).mono ?_
              rintro e w22 ⟨rfl, hb22⟩
              have hB22 : Below w.heap.size w w22 := Below.after (by first | (go_grown; done) | (refine below_drewN ?_ _; go_grown; done)) hb22
              have hs22 : w.heap.size ≤ w22.heap.size := hB22.size
              have hz22_0 : w.heap.size < w22.heap.size := by have := hb22.size; (try simp at this); omega
              have hz22_1 : w.heap.size + 1 < w22.heap.size := by have := hb22.size; (try simp at this); omega
              have hz22_2 : w.heap.size + 1 + 1 < w22.heap.size := by have := hb22.size; (try simp at this); omega
              have hz22_3 : w2.heap.size < w22.heap.size := by have := hb22.size; (try simp at this); omega
              have hz22_4 : w3.heap.size < w22.heap.size := by have := hb22.size; (try simp at this); omega
              have hz22_5 : w4.heap.size < w22.heap.size := by have := hb22.size; (try simp at this); omega
              have hz22_6 : w5.heap.size < w22.heap.size := by have := hb22.size; (try simp at this); omega
              have hz22_7 : w13.heap.size < w22.heap.size := by have := hb22.size; (try simp at this); omega
              have hz22_8 : w16.heap.size < w22.heap.size := by have := hb22.size; (try simp at this); omega
              have hz22_9 : w17.heap.size < w22.heap.size := by have := hb22.size; (try simp at this); omega
              have hz22_10 : w18.heap.size < w22.heap.size := by have := hb22.size; (try simp at this); omega
              have hz22_11 : w21.heap.size < w22.heap.size := by have := hb22.size; (try simp at this); omega
              have hc22_0 : w22.cell? ⟨w.heap.size, 0, none⟩ = some (.int .i64 a) := (hb22.cell (p := ⟨w.heap.size, 0, none⟩) (by first | omega | (simp; done) | (simp; omega))).trans (by simp [go_sem, *])
              have hc22_1 : w22.cell? ⟨w.heap.size, 1, none⟩ = some (.int .i64 b) := (hb22.cell (p := ⟨w.heap.size, 1, none⟩) (by first | omega | (simp; done) | (simp; omega))).trans (by simp [go_sem, *])
              have hc22_2 : w22.cell? ⟨w.heap.size + 1, 0, none⟩ = some (.int .i64 c) := (hb22.cell (p := ⟨w.heap.size + 1, 0, none⟩) (by first | omega | (simp; done) | (simp; omega))).trans (by simp [go_sem, *])
              have hc22_3 : w22.cell? ⟨w.heap.size + 1, 1, none⟩ = some (.int .i64 d) := (hb22.cell (p := ⟨w.heap.size + 1, 1, none⟩) (by first | omega | (simp; done) | (simp; omega))).trans (by simp [go_sem, *])
              have hc22_4 : w22.cell? ⟨w.heap.size + 1 + 1, 0, none⟩ = some (.int .i64 e) := (hb22.cell (p := ⟨w.heap.size + 1 + 1, 0, none⟩) (by first | omega | (simp; done) | (simp; omega))).trans (by simp [go_sem, *])
              have hc22_5 : w22.cell? ⟨w.heap.size + 1 + 1, 1, none⟩ = some (.int .i64 f) := (hb22.cell (p := ⟨w.heap.size + 1 + 1, 1, none⟩) (by first | omega | (simp; done) | (simp; omega))).trans (by simp [go_sem, *])
              have hc22_6 : w22.cell? ⟨w2.heap.size, 0, none⟩ = some (.int .i64 A1) := (hb22.cell (p := ⟨w2.heap.size, 0, none⟩) (by first | omega | (simp; done) | (simp; omega))).trans (by simp [go_sem, *])
              have hc22_7 : w22.cell? ⟨w2.heap.size, 1, none⟩ = some (.int .i64 A2) := (hb22.cell (p := ⟨w2.heap.size, 1, none⟩) (by first | omega | (simp; done) | (simp; omega))).trans (by simp [go_sem, *])
              have hc22_8 : w22.cell? ⟨w3.heap.size, 0, none⟩ = some (.int .i64 A1) := (hb22.cell (p := ⟨w3.heap.size, 0, none⟩) (by first | omega | (simp; done) | (simp; omega))).trans (by simp [go_sem, *])
              have hc22_9 : w22.cell? ⟨w3.heap.size, 1, none⟩ = some (.int .i64 A2) := (hb22.cell (p := ⟨w3.heap.size, 1, none⟩) (by first | omega | (simp; done) | (simp; omega))).trans (by simp [go_sem, *])
              have hc22_10 : w22.cell? ⟨w4.heap.size, 0, none⟩ = some (.int .i64 C1) := (hb22.cell (p := ⟨w4.heap.size, 0, none⟩) (by first | omega | (simp; done) | (simp; omega))).trans (by simp [go_sem, *])
              have hc22_11 : w22.cell? ⟨w4.heap.size, 1, none⟩ = some (.int .i64 C2) := (hb22.cell (p := ⟨w4.heap.size, 1, none⟩) (by first | omega | (simp; done) | (simp; omega))).trans (by simp [go_sem, *])
              have hc22_12 : w22.cell? ⟨w5.heap.size, 0, none⟩ = some (.int .i64 C1) := (hb22.cell (p := ⟨w5.heap.size, 0, none⟩) (by first | omega | (simp; done) | (simp; omega))).trans (by simp [go_sem, *])
              have hc22_13 : w22.cell? ⟨w5.heap.size, 1, none⟩ = some (.int .i64 C2) := (hb22.cell (p := ⟨w5.heap.size, 1, none⟩) (by first | omega | (simp; done) | (simp; omega))).trans (by simp [go_sem, *])
              have hc22_14 : w22.cell? ⟨w13.heap.size, 0, none⟩ = some (.int .i64 B1) := (hb22.cell (p := ⟨w13.heap.size, 0, none⟩) (by first | omega | (simp; done) | (simp; omega))).trans (by simp [go_sem, *])
              have hc22_15 : w22.cell? ⟨w13.heap.size, 1, none⟩ = some (.int .i64 B2) := (hb22.cell (p := ⟨w13.heap.size, 1, none⟩) (by first | omega | (simp; done) | (simp; omega))).trans (by simp [go_sem, *])
              have hc22_16 : w22.cell? ⟨w16.heap.size, 0, none⟩ = some (.int .i64 D1) := (hb22.cell (p := ⟨w16.heap.size, 0, none⟩) (by first | omega | (simp; done) | (simp; omega))).trans (by simp [go_sem, *])
              have hc22_17 : w22.cell? ⟨w16.heap.size, 1, none⟩ = some (.int .i64 D2) := (hb22.cell (p := ⟨w16.heap.size, 1, none⟩) (by first | omega | (simp; done) | (simp; omega))).trans (by simp [go_sem, *])
              have hc22_18 : w22.cell? ⟨w17.heap.size, 0, none⟩ = some (.int .i64 L1) := (hb22.cell (p := ⟨w17.heap.size, 0, none⟩) (by first | omega | (simp; done) | (simp; omega))).trans (by simp [go_sem, *])
              have hc22_19 : w22.cell? ⟨w17.heap.size, 1, none⟩ = some (.int .i64 L2) := (hb22.cell (p := ⟨w17.heap.size, 1, none⟩) (by first | omega | (simp; done) | (simp; omega))).trans (by simp [go_sem, *])
              have hc22_20 : w22.cell? ⟨w18.heap.size, 0, none⟩ = some (.int .i64 R1) := (hb22.cell (p := ⟨w18.heap.size, 0, none⟩) (by first | omega | (simp; done) | (simp; omega))).trans (by simp [go_sem, *])
              have hc22_21 : w22.cell? ⟨w18.heap.size, 1, none⟩ = some (.int .i64 R2) := (hb22.cell (p := ⟨w18.heap.size, 1, none⟩) (by first | omega | (simp; done) | (simp; omega))).trans (by simp [go_sem, *])
              have hc22_22 : w22.cell? ⟨w21.heap.size, 0, none⟩ = some (.int .i64 M1) := (hb22.cell (p := ⟨w21.heap.size, 0, none⟩) (by first | omega | (simp; done) | (simp; omega))).trans (by simp [go_sem, *])
              have hc22_23 : w22.cell? ⟨w21.heap.size, 1, none⟩ = some (.int .i64 M2) := (hb22.cell (p := ⟨w21.heap.size, 1, none⟩) (by first | omega | (simp; done) | (simp; omega))).trans (by simp [go_sem, *])
              have hf22_0 : w22.frozen? ⟨w17.heap.size, 0, none⟩ = false := (hb22.frozen (p := ⟨w17.heap.size, 0, none⟩) (by first | omega | (simp; done) | (simp; omega))).trans (by simp [go_sem, *])
              have hf22_1 : w22.frozen? ⟨w17.heap.size, 1, none⟩ = false := (hb22.frozen (p := ⟨w17.heap.size, 1, none⟩) (by first | omega | (simp; done) | (simp; omega))).trans (by simp [go_sem, *])
              have hf22_2 : w22.frozen? ⟨w18.heap.size, 0, none⟩ = false := (hb22.frozen (p := ⟨w18.heap.size, 0, none⟩) (by first | omega | (simp; done) | (simp; omega))).trans (by simp [go_sem, *])
              have hf22_3 : w22.frozen? ⟨w18.heap.size, 1, none⟩ = false := (hb22.frozen (p := ⟨w18.heap.size, 1, none⟩) (by first | omega | (simp; done) | (simp; omega))).trans (by simp [go_sem, *])
              clear hc21_0 hc21_1 hc21_2 hc21_3 hc21_4 hc21_5 hc21_6 hc21_7 hc21_8 hc21_9 hc21_10 hc21_11 hc21_12 hc21_13 hc21_14 hc21_15 hc21_16 hc21_17 hc21_18 hc21_19 hc21_20 hc21_21 hf21_0 hf21_1 hf21_2 hf21_3
              clear hb22
              go_wp2_with fail
              refine (K10.out _).mono ?_
              rintro e w23 ⟨rfl, hb23⟩
              have hB23 : Below w.heap.size w w23 := Below.after (by first | (go_grown; done) | (refine below_drewN ?_ _; go_grown; done)) hb23
              have hs23 : w.heap.size ≤ w23.heap.size := hB23.size
              have hz23_0 : w.heap.size < w23.heap.size := by have := hb23.size; (try simp at this); omega
              have hz23_1 : w.heap.size + 1 < w23.heap.size := by have := hb23.size; (try simp at this); omega
              have hz23_2 : w.heap.size + 1 + 1 < w23.heap.size := by have := hb23.size; (try simp at this); omega
              have hz23_3 : w2.heap.size < w23.heap.size := by have := hb23.size; (try simp at this); omega
              have hz23_4 : w3.heap.size < w23.heap.size := by have := hb23.size; (try simp at this); omega
              have hz23_5 : w4.heap.size < w23.heap.size := by have := hb23.size; (try simp at this); omega
              have hz23_6 : w5.heap.size < w23.heap.size := by have := hb23.size; (try simp at this); omega
              have hz23_7 : w13.heap.size < w23.heap.size := by have := hb23.size; (try simp at this); omega
              have hz23_8 : w16.heap.size < w23.heap.size := by have := hb23.size; (try simp at this); omega
              have hz23_9 : w17.heap.size < w23.heap.size := by have := hb23.size; (try simp at this); omega
              have hz23_10 : w18.heap.size < w23.heap.size := by have := hb23.size; (try simp at this); omega
              have hz23_11 : w21.heap.size < w23.heap.size := by have := hb23.size; (try simp at this); omega
              have hc23_0 : w23.cell? ⟨w.heap.size, 0, none⟩ = some (.int .i64 a) := (hb23.cell (p := ⟨w.heap.size, 0, none⟩) (by first | omega | (simp; done) | (simp; omega))).trans (by simp [go_sem, *])
              have hc23_1 : w23.cell? ⟨w.heap.size, 1, none⟩ = some (.int .i64 b) := (hb23.cell (p := ⟨w.heap.size, 1, none⟩) (by first | omega | (simp; done) | (simp; omega))).trans (by simp [go_sem, *])
              have hc23_2 : w23.cell? ⟨w.heap.size + 1, 0, none⟩ = some (.int .i64 c) := (hb23.cell (p := ⟨w.heap.size + 1, 0, none⟩) (by first | omega | (simp; done) | (simp; omega))).trans (by simp [go_sem, *])
              have hc23_3 : w23.cell? ⟨w.heap.size + 1, 1, none⟩ = some (.int .i64 d) := (hb23.cell (p := ⟨w.heap.size + 1, 1, none⟩) (by first | omega | (simp; done) | (simp; omega))).trans (by simp [go_sem, *])
              have hc23_4 : w23.cell? ⟨w.heap.size + 1 + 1, 0, none⟩ = some (.int .i64 e) := (hb23.cell (p := ⟨w.heap.size + 1 + 1, 0, none⟩) (by first | omega | (simp; done) | (simp; omega))).trans (by simp [go_sem, *])
              have hc23_5 : w23.cell? ⟨w.heap.size + 1 + 1, 1, none⟩ = some (.int .i64 f) := (hb23.cell (p := ⟨w.heap.size + 1 + 1, 1, none⟩) (by first | omega | (simp; done) | (simp; omega))).trans (by simp [go_sem, *])
              have hc23_6 : w23.cell? ⟨w2.heap.size, 0, none⟩ = some (.int .i64 A1) := (hb23.cell (p := ⟨w2.heap.size, 0, none⟩) (by first | omega | (simp; done) | (simp; omega))).trans (by simp [go_sem, *])
              have hc23_7 : w23.cell? ⟨w2.heap.size, 1, none⟩ = some (.int .i64 A2) := (hb23.cell (p := ⟨w2.heap.size, 1, none⟩) (by first | omega | (simp; done) | (simp; omega))).trans (by simp [go_sem, *])
              have hc23_8 : w23.cell? ⟨w3.heap.size, 0, none⟩ = some (.int .i64 A1) := (hb23.cell (p := ⟨w3.heap.size, 0, none⟩) (by first | omega | (simp; done) | (simp; omega))).trans (by simp [go_sem, *])
              have hc23_9 : w23.cell? ⟨w3.heap.size, 1, none⟩ = some (.int .i64 A2) := (hb23.cell (p := ⟨w3.heap.size, 1, none⟩) (by first | omega | (simp; done) | (simp; omega))).trans (by simp [go_sem, *])
              have hc23_10 : w23.cell? ⟨w4.heap.size, 0, none⟩ = some (.int .i64 C1) := (hb23.cell (p := ⟨w4.heap.size, 0, none⟩) (by first | omega | (simp; done) | (simp; omega))).trans (by simp [go_sem, *])
              have hc23_11 : w23.cell? ⟨w4.heap.size, 1, none⟩ = some (.int .i64 C2) := (hb23.cell (p := ⟨w4.heap.size, 1, none⟩) (by first | omega | (simp; done) | (simp; omega))).trans (by simp [go_sem, *])
              have hc23_12 : w23.cell? ⟨w5.heap.size, 0, none⟩ = some (.int .i64 C1) := (hb23.cell (p := ⟨w5.heap.size, 0, none⟩) (by first | omega | (simp; done) | (simp; omega))).trans (by simp [go_sem, *])
              have hc23_13 : w23.cell? ⟨w5.heap.size, 1, none⟩ = some (.int .i64 C2) := (hb23.cell (p := ⟨w5.heap.size, 1, none⟩) (by first | omega | (simp; done) | (simp; omega))).trans (by simp [go_sem, *])
              have hc23_14 : w23.cell? ⟨w13.heap.size, 0, none⟩ = some (.int .i64 B1) := (hb23.cell (p := ⟨w13.heap.size, 0, none⟩) (by first | omega | (simp; done) | (simp; omega))).trans (by simp [go_sem, *])
              have hc23_15 : w23.cell? ⟨w13.heap.size, 1, none⟩ = some (.int .i64 B2) := (hb23.cell (p := ⟨w13.heap.size, 1, none⟩) (by first | omega | (simp; done) | (simp; omega))).trans (by simp [go_sem, *])
              have hc23_16 : w23.cell? ⟨w16.heap.size, 0, none⟩ = some (.int .i64 D1) := (hb23.cell (p := ⟨w16.heap.size, 0, none⟩) (by first | omega | (simp; done) | (simp; omega))).trans (by simp [go_sem, *])
              have hc23_17 : w23.cell? ⟨w16.heap.size, 1, none⟩ = some (.int .i64 D2) := (hb23.cell (p := ⟨w16.heap.size, 1, none⟩) (by first | omega | (simp; done) | (simp; omega))).trans (by simp [go_sem, *])
              have hc23_18 : w23.cell? ⟨w18.heap.size, 0, none⟩ = some (.int .i64 R1) := (hb23.cell (p := ⟨w18.heap.size, 0, none⟩) (by first | omega | (simp; done) | (simp; omega))).trans (by simp [go_sem, *])
              have hc23_19 : w23.cell? ⟨w18.heap.size, 1, none⟩ = some (.int .i64 R2) := (hb23.cell (p := ⟨w18.heap.size, 1, none⟩) (by first | omega | (simp; done) | (simp; omega))).trans (by simp [go_sem, *])
              have hc23_20 : w23.cell? ⟨w21.heap.size, 0, none⟩ = some (.int .i64 M1) := (hb23.cell (p := ⟨w21.heap.size, 0, none⟩) (by first | omega | (simp; done) | (simp; omega))).trans (by simp [go_sem, *])
              have hc23_21 : w23.cell? ⟨w21.heap.size, 1, none⟩ = some (.int .i64 M2) := (hb23.cell (p := ⟨w21.heap.size, 1, none⟩) (by first | omega | (simp; done) | (simp; omega))).trans (by simp [go_sem, *])
              have hc23_22 : w23.cell? ⟨w17.heap.size, 0, none⟩ = some (.int .i64 U1) := (hb23.cell (p := ⟨w17.heap.size, 0, none⟩) (by first | omega | (simp; done) | (simp; omega))).trans (by simp [go_sem, *])
              have hc23_23 : w23.cell? ⟨w17.heap.size, 1, none⟩ = some (.int .i64 U2) := (hb23.cell (p := ⟨w17.heap.size, 1, none⟩) (by first | omega | (simp; done) | (simp; omega))).trans (by simp [go_sem, *])
              have hf23_0 : w23.frozen? ⟨w17.heap.size, 0, none⟩ = false := (hb23.frozen (p := ⟨w17.heap.size, 0, none⟩) (by first | omega | (simp; done) | (simp; omega))).trans (by simp [go_sem, *])
              have hf23_1 : w23.frozen? ⟨w17.heap.size, 1, none⟩ = false := (hb23.frozen (p := ⟨w17.heap.size, 1, none⟩) (by first | omega | (simp; done) | (simp; omega))).trans (by simp [go_sem, *])
              have hf23_2 : w23.frozen? ⟨w18.heap.size, 0, none⟩ = false := (hb23.frozen (p := ⟨w18.heap.size, 0, none⟩) (by first | omega | (simp; done) | (simp; omega))).trans (by simp [go_sem, *])
              have hf23_3 : w23.frozen? ⟨w18.heap.size, 1, none⟩ = false := (hb23.frozen (p := ⟨w18.heap.size, 1, none⟩) (by first | omega | (simp; done) | (simp; omega))).trans (by simp [go_sem, *])
              clear hc22_0 hc22_1 hc22_2 hc22_3 hc22_4 hc22_5 hc22_6 hc22_7 hc22_8 hc22_9 hc22_10 hc22_11 hc22_12 hc22_13 hc22_14 hc22_15 hc22_16 hc22_17 hc22_18 hc22_19 hc22_20 hc22_21 hc22_22 hc22_23 hf22_0 hf22_1 hf22_2 hf22_3
              clear hb23
              go_upto_region 20 with fail
              obtain ⟨w24, hw24⟩ : ∃ w24, w24 = (w23.setCell ⟨w18.heap.size, 0, none⟩ (.int .i64 V1)).setCell ⟨w18.heap.size, 1, none⟩ (.int .i64 V2) := ⟨_, rfl⟩
              rw [← hw24]
              have hB24 : Below w.heap.size w w24 := by rw [hw24]; go_grown
              have hs24 : w.heap.size ≤ w24.heap.size := hB24.size
              have hz24_0 : w.heap.size < w24.heap.size := by rw [hw24]; first | (simp; done) | (simp; omega) | omega
              have hz24_1 : w.heap.size + 1 < w24.heap.size := by rw [hw24]; first | (simp; done) | (simp; omega) | omega
              have hz24_2 : w.heap.size + 1 + 1 < w24.heap.size := by rw [hw24]; first | (simp; done) | (simp; omega) | omega
              have hz24_3 : w2.heap.size < w24.heap.size := by rw [hw24]; first | (simp; done) | (simp; omega) | omega
              have hz24_4 : w3.heap.size < w24.heap.size := by rw [hw24]; first | (simp; done) | (simp; omega) | omega
              have hz24_5 : w4.heap.size < w24.heap.size := by rw [hw24]; first | (simp; done) | (simp; omega) | omega
              have hz24_6 : w5.heap.size < w24.heap.size := by rw [hw24]; first | (simp; done) | (simp; omega) | omega
              have hz24_7 : w13.heap.size < w24.heap.size := by rw [hw24]; first | (simp; done) | (simp; omega) | omega
              have hz24_8 : w16.heap.size < w24.heap.size := by rw [hw24]; first | (simp; done) | (simp; omega) | omega
              have hz24_9 : w17.heap.size < w24.heap.size := by rw [hw24]; first | (simp; done) | (simp; omega) | omega
              have hz24_10 : w18.heap.size < w24.heap.size := by rw [hw24]; first | (simp; done) | (simp; omega) | omega
              have hz24_11 : w21.heap.size < w24.heap.size := by rw [hw24]; first | (simp; done) | (simp; omega) | omega
              have hc24_0 : w24.cell? ⟨w.heap.size, 0, none⟩ = some (.int .i64 a) := by rw [hw24]; simp [go_sem, *]
              have hc24_1 : w24.cell? ⟨w.heap.size, 1, none⟩ = some (.int .i64 b) := by rw [hw24]; simp [go_sem, *]
              have hc24_2 : w24.cell? ⟨w.heap.size + 1, 0, none⟩ = some (.int .i64 c) := by rw [hw24]; simp [go_sem, *]
              have hc24_3 : w24.cell? ⟨w.heap.size + 1, 1, none⟩ = some (.int .i64 d) := by rw [hw24]; simp [go_sem, *]
              have hc24_4 : w24.cell? ⟨w.heap.size + 1 + 1, 0, none⟩ = some (.int .i64 e) := by rw [hw24]; simp [go_sem, *]
              have hc24_5 : w24.cell? ⟨w.heap.size + 1 + 1, 1, none⟩ = some (.int .i64 f) := by rw [hw24]; simp [go_sem, *]
              have hc24_6 : w24.cell? ⟨w2.heap.size, 0, none⟩ = some (.int .i64 A1) := by rw [hw24]; simp [go_sem, *]
              have hc24_7 : w24.cell? ⟨w2.heap.size, 1, none⟩ = some (.int .i64 A2) := by rw [hw24]; simp [go_sem, *]
              have hc24_8 : w24.cell? ⟨w3.heap.size, 0, none⟩ = some (.int .i64 A1) := by rw [hw24]; simp [go_sem, *]
              have hc24_9 : w24.cell? ⟨w3.heap.size, 1, none⟩ = some (.int .i64 A2) := by rw [hw24]; simp [go_sem, *]
              have hc24_10 : w24.cell? ⟨w4.heap.size, 0, none⟩ = some (.int .i64 C1) := by rw [hw24]; simp [go_sem, *]
              have hc24_11 : w24.cell? ⟨w4.heap.size, 1, none⟩ = some (.int .i64 C2) := by rw [hw24]; simp [go_sem, *]
              have hc24_12 : w24.cell? ⟨w5.heap.size, 0, none⟩ = some (.int .i64 C1) := by rw [hw24]; simp [go_sem, *]
              have hc24_13 : w24.cell? ⟨w5.heap.size, 1, none⟩ = some (.int .i64 C2) := by rw [hw24]; simp [go_sem, *]
              have hc24_14 : w24.cell? ⟨w13.heap.size, 0, none⟩ = some (.int .i64 B1) := by rw [hw24]; simp [go_sem, *]
              have hc24_15 : w24.cell? ⟨w13.heap.size, 1, none⟩ = some (.int .i64 B2) := by rw [hw24]; simp [go_sem, *]
              have hc24_16 : w24.cell? ⟨w16.heap.size, 0, none⟩ = some (.int .i64 D1) := by rw [hw24]; simp [go_sem, *]
              have hc24_17 : w24.cell? ⟨w16.heap.size, 1, none⟩ = some (.int .i64 D2) := by rw [hw24]; simp [go_sem, *]
              have hc24_18 : w24.cell? ⟨w21.heap.size, 0, none⟩ = some (.int .i64 M1) := by rw [hw24]; simp [go_sem, *]
              have hc24_19 : w24.cell? ⟨w21.heap.size, 1, none⟩ = some (.int .i64 M2) := by rw [hw24]; simp [go_sem, *]
              have hc24_20 : w24.cell? ⟨w17.heap.size, 0, none⟩ = some (.int .i64 U1) := by rw [hw24]; simp [go_sem, *]
              have hc24_21 : w24.cell? ⟨w17.heap.size, 1, none⟩ = some (.int .i64 U2) := by rw [hw24]; simp [go_sem, *]
              have hc24_22 : w24.cell? ⟨w18.heap.size, 0, none⟩ = some (.int .i64 V1) := by rw [hw24]; simp [go_sem, *]
              have hc24_23 : w24.cell? ⟨w18.heap.size, 1, none⟩ = some (.int .i64 V2) := by rw [hw24]; simp [go_sem, *]
              have hf24_0 : w24.frozen? ⟨w17.heap.size, 0, none⟩ = false := by rw [hw24]; simp [go_sem, *]
              have hf24_1 : w24.frozen? ⟨w17.heap.size, 1, none⟩ = false := by rw [hw24]; simp [go_sem, *]
              have hf24_2 : w24.frozen? ⟨w18.heap.size, 0, none⟩ = false := by rw [hw24]; simp [go_sem, *]
              have hf24_3 : w24.frozen? ⟨w18.heap.size, 1, none⟩ = false := by rw [hw24]; simp [go_sem, *]
              clear hc23_0 hc23_1 hc23_2 hc23_3 hc23_4 hc23_5 hc23_6 hc23_7 hc23_8 hc23_9 hc23_10 hc23_11 hc23_12 hc23_13 hc23_14 hc23_15 hc23_16 hc23_17 hc23_18 hc23_19 hc23_20 hc23_21 hc23_22 hc23_23 hf23_0 hf23_1 hf23_2 hf23_3
              clear hw24
              go_cut [172] (fun sx wx => sx = .bool false ∧ Below w24.heap.size w24 wx)
              case first =>
                as_aux_lemma =>
                  cases k
                  · go_wp2_with fail; go_meet; exact ⟨rfl, Below.refl _ _⟩
                  cases t
                  · go_wp2_with fail; go_meet; exact ⟨rfl, Below.refl _ _⟩
                  cases u
                  · go_wp2_with fail; go_meet; exact ⟨rfl, Below.refl _ _⟩
                  cases v
                  · go_wp2_with fail; go_meet; exact ⟨rfl, Below.refl _ _⟩
                  obtain ⟨rfl, rfl⟩ := H4'.out rfl rfl rfl rfl
                  go_wp2_with fail; go_meet; exact ⟨rfl, Below.refl _ _⟩
              case rest =>
                as_aux_lemma =>
                  obtain ⟨rfl, hcut⟩ := hcut
                  obtain ⟨w25, rfl⟩ : ∃ w25, w25 = wc := ⟨_, rfl⟩
                  have hB25 : Below w.heap.size w w25 := Below.after (by first | (go_grown; done) | (refine below_drewN ?_ _; go_grown; done)) hcut
                  have hs25 : w.heap.size ≤ w25.heap.size := hB25.size
                  have hz25_0 : w.heap.size < w25.heap.size := by have := hcut.size; (try simp at this); omega
                  have hz25_1 : w.heap.size + 1 < w25.heap.size := by have := hcut.size; (try simp at this); omega
                  have hz25_2 : w.heap.size + 1 + 1 < w25.heap.size := by have := hcut.size; (try simp at this); omega
                  have hz25_3 : w2.heap.size < w25.heap.size := by have := hcut.size; (try simp at this); omega
                  have hz25_4 : w3.heap.size < w25.heap.size := by have := hcut.size; (try simp at this); omega
                  have hz25_5 : w4.heap.size < w25.heap.size := by have := hcut.size; (try simp at this); omega
                  have hz25_6 : w5.heap.size < w25.heap.size := by have := hcut.size; (try simp at this); omega
                  have hz25_7 : w13.heap.size < w25.heap.size := by have := hcut.size; (try simp at this); omega
                  have hz25_8 : w16.heap.size < w25.heap.size := by have := hcut.size; (try simp at this); omega
                  have hz25_9 : w17.heap.size < w25.heap.size := by have := hcut.size; (try simp at this); omega
                  have hz25_10 : w18.heap.size < w25.heap.size := by have := hcut.size; (try simp at this); omega
                  have hz25_11 : w21.heap.size < w25.heap.size := by have := hcut.size; (try simp at this); omega
                  have hc25_0 : w25.cell? ⟨w.heap.size, 0, none⟩ = some (.int .i64 a) := (hcut.cell (p := ⟨w.heap.size, 0, none⟩) (by first | omega | (simp; done) | (simp; omega))).trans (by simp [go_sem, *])
                  have hc25_1 : w25.cell? ⟨w.heap.size, 1, none⟩ = some (.int .i64 b) := (hcut.cell (p := ⟨w.heap.size, 1, none⟩) (by first | omega | (simp; done) | (simp; omega))).trans (by simp [go_sem, *])
                  have hc25_2 : w25.cell? ⟨w.heap.size + 1, 0, none⟩ = some (.int .i64 c) := (hcut.cell (p := ⟨w.heap.size + 1, 0, none⟩) (by first | omega | (simp; done) | (simp; omega))).trans (by simp [go_sem, *])
                  have hc25_3 : w25.cell? ⟨w.heap.size + 1, 1, none⟩ = some (.int .i64 d) := (hcut.cell (p := ⟨w.heap.size + 1, 1, none⟩) (by first | omega | (simp; done) | (simp; omega))).trans (by simp [go_sem, *])
                  have hc25_4 : w25.cell? ⟨w.heap.size + 1 + 1, 0, none⟩ = some (.int .i64 e) := (hcut.cell (p := ⟨w.heap.size + 1 + 1, 0, none⟩) (by first | omega | (simp; done) | (simp; omega))).trans (by simp [go_sem, *])
                  have hc25_5 : w25.cell? ⟨w.heap.size + 1 + 1, 1, none⟩ = some (.int .i64 f) := (hcut.cell (p := ⟨w.heap.size + 1 + 1, 1, none⟩) (by first | omega | (simp; done) | (simp; omega))).trans (by simp [go_sem, *])
                  have hc25_6 : w25.cell? ⟨w2.heap.size, 0, none⟩ = some (.int .i64 A1) := (hcut.cell (p := ⟨w2.heap.size, 0, none⟩) (by first | omega | (simp; done) | (simp; omega))).trans (by simp [go_sem, *])
                  have hc25_7 : w25.cell? ⟨w2.heap.size, 1, none⟩ = some (.int .i64 A2) := (hcut.cell (p := ⟨w2.heap.size, 1, none⟩) (by first | omega | (simp; done) | (simp; omega))).trans (by simp [go_sem, *])
                  have hc25_8 : w25.cell? ⟨w3.heap.size, 0, none⟩ = some (.int .i64 A1) := (hcut.cell (p := ⟨w3.heap.size, 0, none⟩) (by first | omega | (simp; done) | (simp; omega))).trans (by simp [go_sem, *])
                  have hc25_9 : w25.cell? ⟨w3.heap.size, 1, none⟩ = some (.int .i64 A2) := (hcut.cell (p := ⟨w3.heap.size, 1, none⟩) (by first | omega | (simp; done) | (simp; omega))).trans (by simp [go_sem, *])
                  have hc25_10 : w25.cell? ⟨w4.heap.size, 0, none⟩ = some (.int .i64 C1) := (hcut.cell (p := ⟨w4.heap.size, 0, none⟩) (by first | omega | (simp; done) | (simp; omega))).trans (by simp [go_sem, *])
                  have hc25_11 : w25.cell? ⟨w4.heap.size, 1, none⟩ = some (.int .i64 C2) := (hcut.cell (p := ⟨w4.heap.size, 1, none⟩) (by first | omega | (simp; done) | (simp; omega))).trans (by simp [go_sem, *])
                  have hc25_12 : w25.cell? ⟨w5.heap.size, 0, none⟩ = some (.int .i64 C1) := (hcut.cell (p := ⟨w5.heap.size, 0, none⟩) (by first | omega | (simp; done) | (simp; omega))).trans (by simp [go_sem, *])
                  have hc25_13 : w25.cell? ⟨w5.heap.size, 1, none⟩ = some (.int .i64 C2) := (hcut.cell (p := ⟨w5.heap.size, 1, none⟩) (by first | omega | (simp; done) | (simp; omega))).trans (by simp [go_sem, *])
                  have hc25_14 : w25.cell? ⟨w13.heap.size, 0, none⟩ = some (.int .i64 B1) := (hcut.cell (p := ⟨w13.heap.size, 0, none⟩) (by first | omega | (simp; done) | (simp; omega))).trans (by simp [go_sem, *])
                  have hc25_15 : w25.cell? ⟨w13.heap.size, 1, none⟩ = some (.int .i64 B2) := (hcut.cell (p := ⟨w13.heap.size, 1, none⟩) (by first | omega | (simp; done) | (simp; omega))).trans (by simp [go_sem, *])
                  have hc25_16 : w25.cell? ⟨w16.heap.size, 0, none⟩ = some (.int .i64 D1) := (hcut.cell (p := ⟨w16.heap.size, 0, none⟩) (by first | omega | (simp; done) | (simp; omega))).trans (by simp [go_sem, *])
                  have hc25_17 : w25.cell? ⟨w16.heap.size, 1, none⟩ = some (.int .i64 D2) := (hcut.cell (p := ⟨w16.heap.size, 1, none⟩) (by first | omega | (simp; done) | (simp; omega))).trans (by simp [go_sem, *])
                  have hc25_18 : w25.cell? ⟨w21.heap.size, 0, none⟩ = some (.int .i64 M1) := (hcut.cell (p := ⟨w21.heap.size, 0, none⟩) (by first | omega | (simp; done) | (simp; omega))).trans (by simp [go_sem, *])
                  have hc25_19 : w25.cell? ⟨w21.heap.size, 1, none⟩ = some (.int .i64 M2) := (hcut.cell (p := ⟨w21.heap.size, 1, none⟩) (by first | omega | (simp; done) | (simp; omega))).trans (by simp [go_sem, *])
                  have hc25_20 : w25.cell? ⟨w17.heap.size, 0, none⟩ = some (.int .i64 U1) := (hcut.cell (p := ⟨w17.heap.size, 0, none⟩) (by first | omega | (simp; done) | (simp; omega))).trans (by simp [go_sem, *])
                  have hc25_21 : w25.cell? ⟨w17.heap.size, 1, none⟩ = some (.int .i64 U2) := (hcut.cell (p := ⟨w17.heap.size, 1, none⟩) (by first | omega | (simp; done) | (simp; omega))).trans (by simp [go_sem, *])
                  have hc25_22 : w25.cell? ⟨w18.heap.size, 0, none⟩ = some (.int .i64 V1) := (hcut.cell (p := ⟨w18.heap.size, 0, none⟩) (by first | omega | (simp; done) | (simp; omega))).trans (by simp [go_sem, *])
                  have hc25_23 : w25.cell? ⟨w18.heap.size, 1, none⟩ = some (.int .i64 V2) := (hcut.cell (p := ⟨w18.heap.size, 1, none⟩) (by first | omega | (simp; done) | (simp; omega))).trans (by simp [go_sem, *])
                  have hf25_0 : w25.frozen? ⟨w17.heap.size, 0, none⟩ = false := (hcut.frozen (p := ⟨w17.heap.size, 0, none⟩) (by first | omega | (simp; done) | (simp; omega))).trans (by simp [go_sem, *])
                  have hf25_1 : w25.frozen? ⟨w17.heap.size, 1, none⟩ = false := (hcut.frozen (p := ⟨w17.heap.size, 1, none⟩) (by first | omega | (simp; done) | (simp; omega))).trans (by simp [go_sem, *])
                  have hf25_2 : w25.frozen? ⟨w18.heap.size, 0, none⟩ = false := (hcut.frozen (p := ⟨w18.heap.size, 0, none⟩) (by first | omega | (simp; done) | (simp; omega))).trans (by simp [go_sem, *])
                  have hf25_3 : w25.frozen? ⟨w18.heap.size, 1, none⟩ = false := (hcut.frozen (p := ⟨w18.heap.size, 1, none⟩) (by first | omega | (simp; done) | (simp; omega))).trans (by simp [go_sem, *])
                  clear hc24_0 hc24_1 hc24_2 hc24_3 hc24_4 hc24_5 hc24_6 hc24_7 hc24_8 hc24_9 hc24_10 hc24_11 hc24_12 hc24_13 hc24_14 hc24_15 hc24_16 hc24_17 hc24_18 hc24_19 hc24_20 hc24_21 hc24_22 hc24_23 hf24_0 hf24_1 hf24_2 hf24_3
                  clear hcut
                  go_wp2_with fail
                  refine (K11.out _).mono ?_
                  rintro e w26 ⟨rfl, hb26⟩
                  have hB26 : Below w.heap.size w w26 := Below.after (by first | (go_grown; done) | (refine below_drewN ?_ _; go_grown; done)) hb26
                  have hs26 : w.heap.size ≤ w26.heap.size := hB26.size
                  have hz26_0 : w.heap.size < w26.heap.size := by have := hb26.size; (try simp at this); omega
                  have hz26_1 : w.heap.size + 1 < w26.heap.size := by have := hb26.size; (try simp at this); omega
                  have hz26_2 : w.heap.size + 1 + 1 < w26.heap.size := by have := hb26.size; (try simp at this); omega
                  have hz26_3 : w2.heap.size < w26.heap.size := by have := hb26.size; (try simp at this); omega
                  have hz26_4 : w3.heap.size < w26.heap.size := by have := hb26.size; (try simp at this); omega
                  have hz26_5 : w4.heap.size < w26.heap.size := by have := hb26.size; (try simp at this); omega
                  have hz26_6 : w5.heap.size < w26.heap.size := by have := hb26.size; (try simp at this); omega
                  have hz26_7 : w13.heap.size < w26.heap.size := by have := hb26.size; (try simp at this); omega
                  have hz26_8 : w16.heap.size < w26.heap.size := by have := hb26.size; (try simp at this); omega
                  have hz26_9 : w17.heap.size < w26.heap.size := by have := hb26.size; (try simp at this); omega
                  have hz26_10 : w18.heap.size < w26.heap.size := by have := hb26.size; (try simp at this); omega
                  have hz26_11 : w21.heap.size < w26.heap.size := by have := hb26.size; (try simp at this); omega
                  have hc26_0 : w26.cell? ⟨w.heap.size, 0, none⟩ = some (.int .i64 a) := (hb26.cell (p := ⟨w.heap.size, 0, none⟩) (by first | omega | (simp; done) | (simp; omega))).trans (by simp [go_sem, *])
                  have hc26_1 : w26.cell? ⟨w.heap.size, 1, none⟩ = some (.int .i64 b) := (hb26.cell (p := ⟨w.heap.size, 1, none⟩) (by first | omega | (simp; done) | (simp; omega))).trans (by simp [go_sem, *])
                  have hc26_2 : w26.cell? ⟨w.heap.size + 1, 0, none⟩ = some (.int .i64 c) := (hb26.cell (p := ⟨w.heap.size + 1, 0, none⟩) (by first | omega | (simp; done) | (simp; omega))).trans (by simp [go_sem, *])
                  have hc26_3 : w26.cell? ⟨w.heap.size + 1, 1, none⟩ = some (.int .i64 d) := (hb26.cell (p := ⟨w.heap.size + 1, 1, none⟩) (by first | omega | (simp; done) | (simp; omega))).trans (by simp [go_sem, *])
                  have hc26_4 : w26.cell? ⟨w.heap.size + 1 + 1, 0, none⟩ = some (.int .i64 e) := (hb26.cell (p := ⟨w.heap.size + 1 + 1, 0, none⟩) (by first | omega | (simp; done) | (simp; omega))).trans (by simp [go_sem, *])
                  have hc26_5 : w26.cell? ⟨w.heap.size + 1 + 1, 1, none⟩ = some (.int .i64 f) := (hb26.cell (p := ⟨w.heap.size + 1 + 1, 1, none⟩) (by first | omega | (simp; done) | (simp; omega))).trans (by simp [go_sem, *])
                  have hc26_6 : w26.cell? ⟨w2.heap.size, 0, none⟩ = some (.int .i64 A1) := (hb26.cell (p := ⟨w2.heap.size, 0, none⟩) (by first | omega | (simp; done) | (simp; omega))).trans (by simp [go_sem, *])
                  have hc26_7 : w26.cell? ⟨w2.heap.size, 1, none⟩ = some (.int .i64 A2) := (hb26.cell (p := ⟨w2.heap.size, 1, none⟩) (by first | omega | (simp; done) | (simp; omega))).trans (by simp [go_sem, *])
                  have hc26_8 : w26.cell? ⟨w3.heap.size, 0, none⟩ = some (.int .i64 A1) := (hb26.cell (p := ⟨w3.heap.size, 0, none⟩) (by first | omega | (simp; done) | (simp; omega))).trans (by simp [go_sem, *])
                  have hc26_9 : w26.cell? ⟨w3.heap.size, 1, none⟩ = some (.int .i64 A2) := (hb26.cell (p := ⟨w3.heap.size, 1, none⟩) (by first | omega | (simp; done) | (simp; omega))).trans (by simp [go_sem, *])
                  have hc26_10 : w26.cell? ⟨w4.heap.size, 0, none⟩ = some (.int .i64 C1) := (hb26.cell (p := ⟨w4.heap.size, 0, none⟩) (by first | omega | (simp; done) | (simp; omega))).trans (by simp [go_sem, *])
                  have hc26_11 : w26.cell? ⟨w4.heap.size, 1, none⟩ = some (.int .i64 C2) := (hb26.cell (p := ⟨w4.heap.size, 1, none⟩) (by first | omega | (simp; done) | (simp; omega))).trans (by simp [go_sem, *])
                  have hc26_12 : w26.cell? ⟨w5.heap.size, 0, none⟩ = some (.int .i64 C1) := (hb26.cell (p := ⟨w5.heap.size, 0, none⟩) (by first | omega | (simp; done) | (simp; omega))).trans (by simp [go_sem, *])
                  have hc26_13 : w26.cell? ⟨w5.heap.size, 1, none⟩ = some (.int .i64 C2) := (hb26.cell (p := ⟨w5.heap.size, 1, none⟩) (by first | omega | (simp; done) | (simp; omega))).trans (by simp [go_sem, *])
                  have hc26_14 : w26.cell? ⟨w13.heap.size, 0, none⟩ = some (.int .i64 B1) := (hb26.cell (p := ⟨w13.heap.size, 0, none⟩) (by first | omega | (simp; done) | (simp; omega))).trans (by simp [go_sem, *])
                  have hc26_15 : w26.cell? ⟨w13.heap.size, 1, none⟩ = some (.int .i64 B2) := (hb26.cell (p := ⟨w13.heap.size, 1, none⟩) (by first | omega | (simp; done) | (simp; omega))).trans (by simp [go_sem, *])
                  have hc26_16 : w26.cell? ⟨w16.heap.size, 0, none⟩ = some (.int .i64 D1) := (hb26.cell (p := ⟨w16.heap.size, 0, none⟩) (by first | omega | (simp; done) | (simp; omega))).trans (by simp [go_sem, *])
                  have hc26_17 : w26.cell? ⟨w16.heap.size, 1, none⟩ = some (.int .i64 D2) := (hb26.cell (p := ⟨w16.heap.size, 1, none⟩) (by first | omega | (simp; done) | (simp; omega))).trans (by simp [go_sem, *])
                  have hc26_18 : w26.cell? ⟨w21.heap.size, 0, none⟩ = some (.int .i64 M1) := (hb26.cell (p := ⟨w21.heap.size, 0, none⟩) (by first | omega | (simp; done) | (simp; omega))).trans (by simp [go_sem, *])
                  have hc26_19 : w26.cell? ⟨w21.heap.size, 1, none⟩ = some (.int .i64 M2) := (hb26.cell (p := ⟨w21.heap.size, 1, none⟩) (by first | omega | (simp; done) | (simp; omega))).trans (by simp [go_sem, *])
                  have hc26_20 : w26.cell? ⟨w17.heap.size, 0, none⟩ = some (.int .i64 U1) := (hb26.cell (p := ⟨w17.heap.size, 0, none⟩) (by first | omega | (simp; done) | (simp; omega))).trans (by simp [go_sem, *])
                  have hc26_21 : w26.cell? ⟨w17.heap.size, 1, none⟩ = some (.int .i64 U2) := (hb26.cell (p := ⟨w17.heap.size, 1, none⟩) (by first | omega | (simp; done) | (simp; omega))).trans (by simp [go_sem, *])
                  have hc26_22 : w26.cell? ⟨w18.heap.size, 0, none⟩ = some (.int .i64 V1) := (hb26.cell (p := ⟨w18.heap.size, 0, none⟩) (by first | omega | (simp; done) | (simp; omega))).trans (by simp [go_sem, *])
                  have hc26_23 : w26.cell? ⟨w18.heap.size, 1, none⟩ = some (.int .i64 V2) := (hb26.cell (p := ⟨w18.heap.size, 1, none⟩) (by first | omega | (simp; done) | (simp; omega))).trans (by simp [go_sem, *])
                  have hf26_0 : w26.frozen? ⟨w17.heap.size, 0, none⟩ = false := (hb26.frozen (p := ⟨w17.heap.size, 0, none⟩) (by first | omega | (simp; done) | (simp; omega))).trans (by simp [go_sem, *])
                  have hf26_1 : w26.frozen? ⟨w17.heap.size, 1, none⟩ = false := (hb26.frozen (p := ⟨w17.heap.size, 1, none⟩) (by first | omega | (simp; done) | (simp; omega))).trans (by simp [go_sem, *])
                  have hf26_2 : w26.frozen? ⟨w18.heap.size, 0, none⟩ = false := (hb26.frozen (p := ⟨w18.heap.size, 0, none⟩) (by first | omega | (simp; done) | (simp; omega))).trans (by simp [go_sem, *])
                  have hf26_3 : w26.frozen? ⟨w18.heap.size, 1, none⟩ = false := (hb26.frozen (p := ⟨w18.heap.size, 1, none⟩) (by first | omega | (simp; done) | (simp; omega))).trans (by simp [go_sem, *])
                  clear hc25_0 hc25_1 hc25_2 hc25_3 hc25_4 hc25_5 hc25_6 hc25_7 hc25_8 hc25_9 hc25_10 hc25_11 hc25_12 hc25_13 hc25_14 hc25_15 hc25_16 hc25_17 hc25_18 hc25_19 hc25_20 hc25_21 hc25_22 hc25_23 hf25_0 hf25_1 hf25_2 hf25_3
                  clear hb26
                  go_wp2_with fail
                  refine (K12.out _).mono ?_
                  rintro e w27 ⟨rfl, hb27⟩
                  have hB27 : Below w.heap.size w w27 := Below.after (by first | (go_grown; done) | (refine below_drewN ?_ _; go_grown; done)) hb27
                  have hs27 : w.heap.size ≤ w27.heap.size := hB27.size
                  have hz27_0 : w.heap.size < w27.heap.size := by have := hb27.size; (try simp at this); omega
                  have hz27_1 : w.heap.size + 1 < w27.heap.size := by have := hb27.size; (try simp at this); omega
                  have hz27_2 : w.heap.size + 1 + 1 < w27.heap.size := by have := hb27.size; (try simp at this); omega
                  have hz27_3 : w2.heap.size < w27.heap.size := by have := hb27.size; (try simp at this); omega
                  have hz27_4 : w3.heap.size < w27.heap.size := by have := hb27.size; (try simp at this); omega
                  have hz27_5 : w4.heap.size < w27.heap.size := by have := hb27.size; (try simp at this); omega
                  have hz27_6 : w5.heap.size < w27.heap.size := by have := hb27.size; (try simp at this); omega
                  have hz27_7 : w13.heap.size < w27.heap.size := by have := hb27.size; (try simp at this); omega
                  have hz27_8 : w16.heap.size < w27.heap.size := by have := hb27.size; (try simp at this); omega
                  have hz27_9 : w17.heap.size < w27.heap.size := by have := hb27.size; (try simp at this); omega
                  have hz27_10 : w18.heap.size < w27.heap.size := by have := hb27.size; (try simp at this); omega
                  have hz27_11 : w21.heap.size < w27.heap.size := by have := hb27.size; (try simp at this); omega
                  have hz27_12 : w26.heap.size < w27.heap.size := by have := hb27.size; (try simp at this); omega
                  have hc27_0 : w27.cell? ⟨w.heap.size, 0, none⟩ = some (.int .i64 a) := (hb27.cell (p := ⟨w.heap.size, 0, none⟩) (by first | omega | (simp; done) | (simp; omega))).trans (by simp [go_sem, *])
                  have hc27_1 : w27.cell? ⟨w.heap.size, 1, none⟩ = some (.int .i64 b) := (hb27.cell (p := ⟨w.heap.size, 1, none⟩) (by first | omega | (simp; done) | (simp; omega))).trans (by simp [go_sem, *])
                  have hc27_2 : w27.cell? ⟨w.heap.size + 1, 0, none⟩ = some (.int .i64 c) := (hb27.cell (p := ⟨w.heap.size + 1, 0, none⟩) (by first | omega | (simp; done) | (simp; omega))).trans (by simp [go_sem, *])
                  have hc27_3 : w27.cell? ⟨w.heap.size + 1, 1, none⟩ = some (.int .i64 d) := (hb27.cell (p := ⟨w.heap.size + 1, 1, none⟩) (by first | omega | (simp; done) | (simp; omega))).trans (by simp [go_sem, *])
                  have hc27_4 : w27.cell? ⟨w.heap.size + 1 + 1, 0, none⟩ = some (.int .i64 e) := (hb27.cell (p := ⟨w.heap.size + 1 + 1, 0, none⟩) (by first | omega | (simp; done) | (simp; omega))).trans (by simp [go_sem, *])
                  have hc27_5 : w27.cell? ⟨w.heap.size + 1 + 1, 1, none⟩ = some (.int .i64 f) := (hb27.cell (p := ⟨w.heap.size + 1 + 1, 1, none⟩) (by first | omega | (simp; done) | (simp; omega))).trans (by simp [go_sem, *])
                  have hc27_6 : w27.cell? ⟨w2.heap.size, 0, none⟩ = some (.int .i64 A1) := (hb27.cell (p := ⟨w2.heap.size, 0, none⟩) (by first | omega | (simp; done) | (simp; omega))).trans (by simp [go_sem, *])
                  have hc27_7 : w27.cell? ⟨w2.heap.size, 1, none⟩ = some (.int .i64 A2) := (hb27.cell (p := ⟨w2.heap.size, 1, none⟩) (by first | omega | (simp; done) | (simp; omega))).trans (by simp [go_sem, *])
                  have hc27_8 : w27.cell? ⟨w3.heap.size, 0, none⟩ = some (.int .i64 A1) := (hb27.cell (p := ⟨w3.heap.size, 0, none⟩) (by first | omega | (simp; done) | (simp; omega))).trans (by simp [go_sem, *])
                  have hc27_9 : w27.cell? ⟨w3.heap.size, 1, none⟩ = some (.int .i64 A2) := (hb27.cell (p := ⟨w3.heap.size, 1, none⟩) (by first | omega | (simp; done) | (simp; omega))).trans (by simp [go_sem, *])
                  have hc27_10 : w27.cell? ⟨w4.heap.size, 0, none⟩ = some (.int .i64 C1) := (hb27.cell (p := ⟨w4.heap.size, 0, none⟩) (by first | omega | (simp; done) | (simp; omega))).trans (by simp [go_sem, *])
                  have hc27_11 : w27.cell? ⟨w4.heap.size, 1, none⟩ = some (.int .i64 C2) := (hb27.cell (p := ⟨w4.heap.size, 1, none⟩) (by first | omega | (simp; done) | (simp; omega))).trans (by simp [go_sem, *])
                  have hc27_12 : w27.cell? ⟨w5.heap.size, 0, none⟩ = some (.int .i64 C1) := (hb27.cell (p := ⟨w5.heap.size, 0, none⟩) (by first | omega | (simp; done) | (simp; omega))).trans (by simp [go_sem, *])
                  have hc27_13 : w27.cell? ⟨w5.heap.size, 1, none⟩ = some (.int .i64 C2) := (hb27.cell (p := ⟨w5.heap.size, 1, none⟩) (by first | omega | (simp; done) | (simp; omega))).trans (by simp [go_sem, *])
                  have hc27_14 : w27.cell? ⟨w13.heap.size, 0, none⟩ = some (.int .i64 B1) := (hb27.cell (p := ⟨w13.heap.size, 0, none⟩) (by first | omega | (simp; done) | (simp; omega))).trans (by simp [go_sem, *])
                  have hc27_15 : w27.cell? ⟨w13.heap.size, 1, none⟩ = some (.int .i64 B2) := (hb27.cell (p := ⟨w13.heap.size, 1, none⟩) (by first | omega | (simp; done) | (simp; omega))).trans (by simp [go_sem, *])
                  have hc27_16 : w27.cell? ⟨w16.heap.size, 0, none⟩ = some (.int .i64 D1) := (hb27.cell (p := ⟨w16.heap.size, 0, none⟩) (by first | omega | (simp; done) | (simp; omega))).trans (by simp [go_sem, *])
                  have hc27_17 : w27.cell? ⟨w16.heap.size, 1, none⟩ = some (.int .i64 D2) := (hb27.cell (p := ⟨w16.heap.size, 1, none⟩) (by first | omega | (simp; done) | (simp; omega))).trans (by simp [go_sem, *])
                  have hc27_18 : w27.cell? ⟨w21.heap.size, 0, none⟩ = some (.int .i64 M1) := (hb27.cell (p := ⟨w21.heap.size, 0, none⟩) (by first | omega | (simp; done) | (simp; omega))).trans (by simp [go_sem, *])
                  have hc27_19 : w27.cell? ⟨w21.heap.size, 1, none⟩ = some (.int .i64 M2) := (hb27.cell (p := ⟨w21.heap.size, 1, none⟩) (by first | omega | (simp; done) | (simp; omega))).trans (by simp [go_sem, *])
                  have hc27_20 : w27.cell? ⟨w17.heap.size, 0, none⟩ = some (.int .i64 U1) := (hb27.cell (p := ⟨w17.heap.size, 0, none⟩) (by first | omega | (simp; done) | (simp; omega))).trans (by simp [go_sem, *])
                  have hc27_21 : w27.cell? ⟨w17.heap.size, 1, none⟩ = some (.int .i64 U2) := (hb27.cell (p := ⟨w17.heap.size, 1, none⟩) (by first | omega | (simp; done) | (simp; omega))).trans (by simp [go_sem, *])
                  have hc27_22 : w27.cell? ⟨w18.heap.size, 0, none⟩ = some (.int .i64 V1) := (hb27.cell (p := ⟨w18.heap.size, 0, none⟩) (by first | omega | (simp; done) | (simp; omega))).trans (by simp [go_sem, *])
                  have hc27_23 : w27.cell? ⟨w18.heap.size, 1, none⟩ = some (.int .i64 V2) := (hb27.cell (p := ⟨w18.heap.size, 1, none⟩) (by first | omega | (simp; done) | (simp; omega))).trans (by simp [go_sem, *])
                  have hc27_24 : w27.cell? ⟨w26.heap.size, 0, none⟩ = some (.int .i64 W1) := (hb27.cell (p := ⟨w26.heap.size, 0, none⟩) (by first | omega | (simp; done) | (simp; omega))).trans (by simp [go_sem, *])
                  have hc27_25 : w27.cell? ⟨w26.heap.size, 1, none⟩ = some (.int .i64 W2) := (hb27.cell (p := ⟨w26.heap.size, 1, none⟩) (by first | omega | (simp; done) | (simp; omega))).trans (by simp [go_sem, *])
                  have hf27_0 : w27.frozen? ⟨w17.heap.size, 0, none⟩ = false := (hb27.frozen (p := ⟨w17.heap.size, 0, none⟩) (by first | omega | (simp; done) | (simp; omega))).trans (by simp [go_sem, *])
                  have hf27_1 : w27.frozen? ⟨w17.heap.size, 1, none⟩ = false := (hb27.frozen (p := ⟨w17.heap.size, 1, none⟩) (by first | omega | (simp; done) | (simp; omega))).trans (by simp [go_sem, *])
                  have hf27_2 : w27.frozen? ⟨w18.heap.size, 0, none⟩ = false := (hb27.frozen (p := ⟨w18.heap.size, 0, none⟩) (by first | omega | (simp; done) | (simp; omega))).trans (by simp [go_sem, *])
                  have hf27_3 : w27.frozen? ⟨w18.heap.size, 1, none⟩ = false := (hb27.frozen (p := ⟨w18.heap.size, 1, none⟩) (by first | omega | (simp; done) | (simp; omega))).trans (by simp [go_sem, *])
                  clear hc26_0 hc26_1 hc26_2 hc26_3 hc26_4 hc26_5 hc26_6 hc26_7 hc26_8 hc26_9 hc26_10 hc26_11 hc26_12 hc26_13 hc26_14 hc26_15 hc26_16 hc26_17 hc26_18 hc26_19 hc26_20 hc26_21 hc26_22 hc26_23 hf26_0 hf26_1 hf26_2 hf26_3
                  clear hb27
                  go_wp2_with fail
                  refine (K13.out _).mono ?_
                  rintro e w28 ⟨rfl, hb28⟩
                  have hB28 : Below w.heap.size w w28 := Below.after (by first | (go_grown; done) | (refine below_drewN ?_ _; go_grown; done)) hb28
                  have hs28 : w.heap.size ≤ w28.heap.size := hB28.size
                  have hz28_0 : w.heap.size < w28.heap.size := by have := hb28.size; (try simp at this); omega
                  have hz28_1 : w.heap.size + 1 < w28.heap.size := by have := hb28.size; (try simp at this); omega
                  have hz28_2 : w.heap.size + 1 + 1 < w28.heap.size := by have := hb28.size; (try simp at this); omega
                  have hz28_3 : w2.heap.size < w28.heap.size := by have := hb28.size; (try simp at this); omega
                  have hz28_4 : w3.heap.size < w28.heap.size := by have := hb28.size; (try simp at this); omega
                  have hz28_5 : w4.heap.size < w28.heap.size := by have := hb28.size; (try simp at this); omega
                  have hz28_6 : w5.heap.size < w28.heap.size := by have := hb28.size; (try simp at this); omega
                  have hz28_7 : w13.heap.size < w28.heap.size := by have := hb28.size; (try simp at this); omega
                  have hz28_8 : w16.heap.size < w28.heap.size := by have := hb28.size; (try simp at this); omega
                  have hz28_9 : w17.heap.size < w28.heap.size := by have := hb28.size; (try simp at this); omega
                  have hz28_10 : w18.heap.size < w28.heap.size := by have := hb28.size; (try simp at this); omega
                  have hz28_11 : w21.heap.size < w28.heap.size := by have := hb28.size; (try simp at this); omega
                  have hz28_12 : w26.heap.size < w28.heap.size := by have := hb28.size; (try simp at this); omega
                  have hc28_0 : w28.cell? ⟨w.heap.size, 0, none⟩ = some (.int .i64 a) := (hb28.cell (p := ⟨w.heap.size, 0, none⟩) (by first | omega | (simp; done) | (simp; omega))).trans (by simp [go_sem, *])
                  have hc28_1 : w28.cell? ⟨w.heap.size, 1, none⟩ = some (.int .i64 b) := (hb28.cell (p := ⟨w.heap.size, 1, none⟩) (by first | omega | (simp; done) | (simp; omega))).trans (by simp [go_sem, *])
                  have hc28_2 : w28.cell? ⟨w.heap.size + 1, 0, none⟩ = some (.int .i64 c) := (hb28.cell (p := ⟨w.heap.size + 1, 0, none⟩) (by first | omega | (simp; done) | (simp; omega))).trans (by simp [go_sem, *])
                  have hc28_3 : w28.cell? ⟨w.heap.size + 1, 1, none⟩ = some (.int .i64 d) := (hb28.cell (p := ⟨w.heap.size + 1, 1, none⟩) (by first | omega | (simp; done) | (simp; omega))).trans (by simp [go_sem, *])
                  have hc28_4 : w28.cell? ⟨w.heap.size + 1 + 1, 0, none⟩ = some (.int .i64 e) := (hb28.cell (p := ⟨w.heap.size + 1 + 1, 0, none⟩) (by first | omega | (simp; done) | (simp; omega))).trans (by simp [go_sem, *])
                  have hc28_5 : w28.cell? ⟨w.heap.size + 1 + 1, 1, none⟩ = some (.int .i64 f) := (hb28.cell (p := ⟨w.heap.size + 1 + 1, 1, none⟩) (by first | omega | (simp; done) | (simp; omega))).trans (by simp [go_sem, *])
                  have hc28_6 : w28.cell? ⟨w2.heap.size, 0, none⟩ = some (.int .i64 A1) := (hb28.cell (p := ⟨w2.heap.size, 0, none⟩) (by first | omega | (simp; done) | (simp; omega))).trans (by simp [go_sem, *])
                  have hc28_7 : w28.cell? ⟨w2.heap.size, 1, none⟩ = some (.int .i64 A2) := (hb28.cell (p := ⟨w2.heap.size, 1, none⟩) (by first | omega | (simp; done) | (simp; omega))).trans (by simp [go_sem, *])
                  have hc28_8 : w28.cell? ⟨w3.heap.size, 0, none⟩ = some (.int .i64 A1) := (hb28.cell (p := ⟨w3.heap.size, 0, none⟩) (by first | omega | (simp; done) | (simp; omega))).trans (by simp [go_sem, *])
                  have hc28_9 : w28.cell? ⟨w3.heap.size, 1, none⟩ = some (.int .i64 A2) := (hb28.cell (p := ⟨w3.heap.size, 1, none⟩) (by first | omega | (simp; done) | (simp; omega))).trans (by simp [go_sem, *])
                  have hc28_10 : w28.cell? ⟨w4.heap.size, 0, none⟩ = some (.int .i64 C1) := (hb28.cell (p := ⟨w4.heap.size, 0, none⟩) (by first | omega | (simp; done) | (simp; omega))).trans (by simp [go_sem, *])
                  have hc28_11 : w28.cell? ⟨w4.heap.size, 1, none⟩ = some (.int .i64 C2) := (hb28.cell (p := ⟨w4.heap.size, 1, none⟩) (by first | omega | (simp; done) | (simp; omega))).trans (by simp [go_sem, *])
                  have hc28_12 : w28.cell? ⟨w5.heap.size, 0, none⟩ = some (.int .i64 C1) := (hb28.cell (p := ⟨w5.heap.size, 0, none⟩) (by first | omega | (simp; done) | (simp; omega))).trans (by simp [go_sem, *])
                  have hc28_13 : w28.cell? ⟨w5.heap.size, 1, none⟩ = some (.int .i64 C2) := (hb28.cell (p := ⟨w5.heap.size, 1, none⟩) (by first | omega | (simp; done) | (simp; omega))).trans (by simp [go_sem, *])
                  have hc28_14 : w28.cell? ⟨w13.heap.size, 0, none⟩ = some (.int .i64 B1) := (hb28.cell (p := ⟨w13.heap.size, 0, none⟩) (by first | omega | (simp; done) | (simp; omega))).trans (by simp [go_sem, *])
                  have hc28_15 : w28.cell? ⟨w13.heap.size, 1, none⟩ = some (.int .i64 B2) := (hb28.cell (p := ⟨w13.heap.size, 1, none⟩) (by first | omega | (simp; done) | (simp; omega))).trans (by simp [go_sem, *])
                  have hc28_16 : w28.cell? ⟨w16.heap.size, 0, none⟩ = some (.int .i64 D1) := (hb28.cell (p := ⟨w16.heap.size, 0, none⟩) (by first | omega | (simp; done) | (simp; omega))).trans (by simp [go_sem, *])
                  have hc28_17 : w28.cell? ⟨w16.heap.size, 1, none⟩ = some (.int .i64 D2) := (hb28.cell (p := ⟨w16.heap.size, 1, none⟩) (by first | omega | (simp; done) | (simp; omega))).trans (by simp [go_sem, *])
                  have hc28_18 : w28.cell? ⟨w21.heap.size, 0, none⟩ = some (.int .i64 M1) := (hb28.cell (p := ⟨w21.heap.size, 0, none⟩) (by first | omega | (simp; done) | (simp; omega))).trans (by simp [go_sem, *])
                  have hc28_19 : w28.cell? ⟨w21.heap.size, 1, none⟩ = some (.int .i64 M2) := (hb28.cell (p := ⟨w21.heap.size, 1, none⟩) (by first | omega | (simp; done) | (simp; omega))).trans (by simp [go_sem, *])
                  have hc28_20 : w28.cell? ⟨w18.heap.size, 0, none⟩ = some (.int .i64 V1) := (hb28.cell (p := ⟨w18.heap.size, 0, none⟩) (by first | omega | (simp; done) | (simp; omega))).trans (by simp [go_sem, *])
                  have hc28_21 : w28.cell? ⟨w18.heap.size, 1, none⟩ = some (.int .i64 V2) := (hb28.cell (p := ⟨w18.heap.size, 1, none⟩) (by first | omega | (simp; done) | (simp; omega))).trans (by simp [go_sem, *])
                  have hc28_22 : w28.cell? ⟨w26.heap.size, 0, none⟩ = some (.int .i64 W1) := (hb28.cell (p := ⟨w26.heap.size, 0, none⟩) (by first | omega | (simp; done) | (simp; omega))).trans (by simp [go_sem, *])
                  have hc28_23 : w28.cell? ⟨w26.heap.size, 1, none⟩ = some (.int .i64 W2) := (hb28.cell (p := ⟨w26.heap.size, 1, none⟩) (by first | omega | (simp; done) | (simp; omega))).trans (by simp [go_sem, *])
                  have hc28_24 : w28.cell? ⟨w17.heap.size, 0, none⟩ = some (.int .i64 X1) := (hb28.cell (p := ⟨w17.heap.size, 0, none⟩) (by first | omega | (simp; done) | (simp; omega))).trans (by simp [go_sem, *])
                  have hc28_25 : w28.cell? ⟨w17.heap.size, 1, none⟩ = some (.int .i64 X2) := (hb28.cell (p := ⟨w17.heap.size, 1, none⟩) (by first | omega | (simp; done) | (simp; omega))).trans (by simp [go_sem, *])
                  have hf28_0 : w28.frozen? ⟨w17.heap.size, 0, none⟩ = false := (hb28.frozen (p := ⟨w17.heap.size, 0, none⟩) (by first | omega | (simp; done) | (simp; omega))).trans (by simp [go_sem, *])
                  have hf28_1 : w28.frozen? ⟨w17.heap.size, 1, none⟩ = false := (hb28.frozen (p := ⟨w17.heap.size, 1, none⟩) (by first | omega | (simp; done) | (simp; omega))).trans (by simp [go_sem, *])
                  have hf28_2 : w28.frozen? ⟨w18.heap.size, 0, none⟩ = false := (hb28.frozen (p := ⟨w18.heap.size, 0, none⟩) (by first | omega | (simp; done) | (simp; omega))).trans (by simp [go_sem, *])
                  have hf28_3 : w28.frozen? ⟨w18.heap.size, 1, none⟩ = false := (hb28.frozen (p := ⟨w18.heap.size, 1, none⟩) (by first | omega | (simp; done) | (simp; omega))).trans (by simp [go_sem, *])
                  clear hc27_0 hc27_1 hc27_2 hc27_3 hc27_4 hc27_5 hc27_6 hc27_7 hc27_8 hc27_9 hc27_10 hc27_11 hc27_12 hc27_13 hc27_14 hc27_15 hc27_16 hc27_17 hc27_18 hc27_19 hc27_20 hc27_21 hc27_22 hc27_23 hc27_24 hc27_25 hf27_0 hf27_1 hf27_2 hf27_3
                  clear hb28
                  go_upto_region 25 with fail
                  obtain ⟨w29, hw29⟩ : ∃ w29, w29 = (w28.setCell ⟨w18.heap.size, 0, none⟩ (.int .i64 Y1)).setCell ⟨w18.heap.size, 1, none⟩ (.int .i64 Y2) := ⟨_, rfl⟩
                  rw [← hw29]
                  have hB29 : Below w.heap.size w w29 := by rw [hw29]; go_grown
                  have hs29 : w.heap.size ≤ w29.heap.size := hB29.size
                  have hz29_0 : w.heap.size < w29.heap.size := by rw [hw29]; first | (simp; done) | (simp; omega) | omega
                  have hz29_1 : w.heap.size + 1 < w29.heap.size := by rw [hw29]; first | (simp; done) | (simp; omega) | omega
                  have hz29_2 : w.heap.size + 1 + 1 < w29.heap.size := by rw [hw29]; first | (simp; done) | (simp; omega) | omega
                  have hz29_3 : w2.heap.size < w29.heap.size := by rw [hw29]; first | (simp; done) | (simp; omega) | omega
                  have hz29_4 : w3.heap.size < w29.heap.size := by rw [hw29]; first | (simp; done) | (simp; omega) | omega
                  have hz29_5 : w4.heap.size < w29.heap.size := by rw [hw29]; first | (simp; done) | (simp; omega) | omega
                  have hz29_6 : w5.heap.size < w29.heap.size := by rw [hw29]; first | (simp; done) | (simp; omega) | omega
                  have hz29_7 : w13.heap.size < w29.heap.size := by rw [hw29]; first | (simp; done) | (simp; omega) | omega
                  have hz29_8 : w16.heap.size < w29.heap.size := by rw [hw29]; first | (simp; done) | (simp; omega) | omega
                  have hz29_9 : w17.heap.size < w29.heap.size := by rw [hw29]; first | (simp; done) | (simp; omega) | omega
                  have hz29_10 : w18.heap.size < w29.heap.size := by rw [hw29]; first | (simp; done) | (simp; omega) | omega
                  have hz29_11 : w21.heap.size < w29.heap.size := by rw [hw29]; first | (simp; done) | (simp; omega) | omega
                  have hz29_12 : w26.heap.size < w29.heap.size := by rw [hw29]; first | (simp; done) | (simp; omega) | omega
                  have hc29_0 : w29.cell? ⟨w.heap.size, 0, none⟩ = some (.int .i64 a) := by rw [hw29]; simp [go_sem, *]
                  have hc29_1 : w29.cell? ⟨w.heap.size, 1, none⟩ = some (.int .i64 b) := by rw [hw29]; simp [go_sem, *]
                  have hc29_2 : w29.cell? ⟨w.heap.size + 1, 0, none⟩ = some (.int .i64 c) := by rw [hw29]; simp [go_sem, *]
                  have hc29_3 : w29.cell? ⟨w.heap.size + 1, 1, none⟩ = some (.int .i64 d) := by rw [hw29]; simp [go_sem, *]
                  have hc29_4 : w29.cell? ⟨w.heap.size + 1 + 1, 0, none⟩ = some (.int .i64 e) := by rw [hw29]; simp [go_sem, *]
                  have hc29_5 : w29.cell? ⟨w.heap.size + 1 + 1, 1, none⟩ = some (.int .i64 f) := by rw [hw29]; simp [go_sem, *]
                  have hc29_6 : w29.cell? ⟨w2.heap.size, 0, none⟩ = some (.int .i64 A1) := by rw [hw29]; simp [go_sem, *]
                  have hc29_7 : w29.cell? ⟨w2.heap.size, 1, none⟩ = some (.int .i64 A2) := by rw [hw29]; simp [go_sem, *]
                  have hc29_8 : w29.cell? ⟨w3.heap.size, 0, none⟩ = some (.int .i64 A1) := by rw [hw29]; simp [go_sem, *]
                  have hc29_9 : w29.cell? ⟨w3.heap.size, 1, none⟩ = some (.int .i64 A2) := by rw [hw29]; simp [go_sem, *]
                  have hc29_10 : w29.cell? ⟨w4.heap.size, 0, none⟩ = some (.int .i64 C1) := by rw [hw29]; simp [go_sem, *]
                  have hc29_11 : w29.cell? ⟨w4.heap.size, 1, none⟩ = some (.int .i64 C2) := by rw [hw29]; simp [go_sem, *]
                  have hc29_12 : w29.cell? ⟨w5.heap.size, 0, none⟩ = some (.int .i64 C1) := by rw [hw29]; simp [go_sem, *]
                  have hc29_13 : w29.cell? ⟨w5.heap.size, 1, none⟩ = some (.int .i64 C2) := by rw [hw29]; simp [go_sem, *]
                  have hc29_14 : w29.cell? ⟨w13.heap.size, 0, none⟩ = some (.int .i64 B1) := by rw [hw29]; simp [go_sem, *]
                  have hc29_15 : w29.cell? ⟨w13.heap.size, 1, none⟩ = some (.int .i64 B2) := by rw [hw29]; simp [go_sem, *]
                  have hc29_16 : w29.cell? ⟨w16.heap.size, 0, none⟩ = some (.int .i64 D1) := by rw [hw29]; simp [go_sem, *]
                  have hc29_17 : w29.cell? ⟨w16.heap.size, 1, none⟩ = some (.int .i64 D2) := by rw [hw29]; simp [go_sem, *]
                  have hc29_18 : w29.cell? ⟨w21.heap.size, 0, none⟩ = some (.int .i64 M1) := by rw [hw29]; simp [go_sem, *]
                  have hc29_19 : w29.cell? ⟨w21.heap.size, 1, none⟩ = some (.int .i64 M2) := by rw [hw29]; simp [go_sem, *]
                  have hc29_20 : w29.cell? ⟨w26.heap.size, 0, none⟩ = some (.int .i64 W1) := by rw [hw29]; simp [go_sem, *]
                  have hc29_21 : w29.cell? ⟨w26.heap.size, 1, none⟩ = some (.int .i64 W2) := by rw [hw29]; simp [go_sem, *]
                  have hc29_22 : w29.cell? ⟨w17.heap.size, 0, none⟩ = some (.int .i64 X1) := by rw [hw29]; simp [go_sem, *]
                  have hc29_23 : w29.cell? ⟨w17.heap.size, 1, none⟩ = some (.int .i64 X2) := by rw [hw29]; simp [go_sem, *]
                  have hc29_24 : w29.cell? ⟨w18.heap.size, 0, none⟩ = some (.int .i64 Y1) := by rw [hw29]; simp [go_sem, *]
                  have hc29_25 : w29.cell? ⟨w18.heap.size, 1, none⟩ = some (.int .i64 Y2) := by rw [hw29]; simp [go_sem, *]
                  have hf29_0 : w29.frozen? ⟨w17.heap.size, 0, none⟩ = false := by rw [hw29]; simp [go_sem, *]
                  have hf29_1 : w29.frozen? ⟨w17.heap.size, 1, none⟩ = false := by rw [hw29]; simp [go_sem, *]
                  have hf29_2 : w29.frozen? ⟨w18.heap.size, 0, none⟩ = false := by rw [hw29]; simp [go_sem, *]
                  have hf29_3 : w29.frozen? ⟨w18.heap.size, 1, none⟩ = false := by rw [hw29]; simp [go_sem, *]
                  clear hc28_0 hc28_1 hc28_2 hc28_3 hc28_4 hc28_5 hc28_6 hc28_7 hc28_8 hc28_9 hc28_10 hc28_11 hc28_12 hc28_13 hc28_14 hc28_15 hc28_16 hc28_17 hc28_18 hc28_19 hc28_20 hc28_21 hc28_22 hc28_23 hc28_24 hc28_25 hf28_0 hf28_1 hf28_2 hf28_3
                  clear hw29
                  cases n
                  · go_wp2_with fail; go_ret; refine ⟨rfl, ?_⟩; go_grown
                  cases k
                  · go_wp2_with fail; go_ret; refine ⟨rfl, ?_⟩; go_grown
                  cases q
                  · go_wp2_with fail; go_ret; refine ⟨rfl, ?_⟩; go_grown
                  obtain ⟨rfl, rfl, rfl⟩ := H5'.out rfl rfl rfl
                  go_wp2_with fail; go_ret; refine ⟨rfl, ?_⟩; go_grown

end Go.Proofs.Ytkjmnmcekhnkmaa
