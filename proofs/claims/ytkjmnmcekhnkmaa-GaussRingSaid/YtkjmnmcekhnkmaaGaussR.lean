/- The document's answers on pairs (package capstanref02), as contracts: the same plain functions; for all parts. -/
import Derived.Test.YtkjmnmcekhnkmaaGaussB
namespace Go.Proofs.Ytkjmnmcekhnkmaa
open Go.RowKit
set_option linter.unusedSimpArgs false
set_option linter.unusedVariables false

theorem ret_int {a b : Int} (h : a = b) : Ending.returned (.int .i64 a) = .returned (.int .i64 b) := by rw [h]

theorem rmay_any (a b : Int) (w : World) : Calls Try.prog 32 #[.int .i64 a, .int .i64 b] w fun e w' => e = .returned (.bool (mayB a b)) ∧ w = w' := by
  by_cases h1 : -1048576 ≤ a
  · by_cases h2 : a ≤ 1048576
    · by_cases h3 : -1048576 ≤ b
      · by_cases h4 : b ≤ 1048576
        all_goals
          go_enter Try.func32, Try.ntmps32
          go_wp2
          go_ret
          refine ⟨ret_bool ?_, rfl⟩
          first | (symm; rw [mayB, decide_eq_true_iff]; omega) | (symm; rw [mayB, decide_eq_false_iff_not]; omega)
      · go_enter Try.func32, Try.ntmps32
        go_wp2
        go_ret
        refine ⟨ret_bool ?_, rfl⟩
        (symm; rw [mayB, decide_eq_false_iff_not]; omega)
    · go_enter Try.func32, Try.ntmps32
      go_wp2
      go_ret
      refine ⟨ret_bool ?_, rfl⟩
      (symm; rw [mayB, decide_eq_false_iff_not]; omega)
  · go_enter Try.func32, Try.ntmps32
    go_wp2
    go_ret
    refine ⟨ret_bool ?_, rfl⟩
    (symm; rw [mayB, decide_eq_false_iff_not]; omega)

theorem part0 (x y : Value) (w : World) : (part 2 #[x, y] 0).run Try.prog w = .ok x w := by kernel_rfl
theorem part1 (x y : Value) (w : World) : (part 2 #[x, y] 1).run Try.prog w = .ok y w := by kernel_rfl
theorem size2 (w : World) : (sizeOf 2).run Try.prog w = .ok 1 w := by kernel_rfl
theorem under52 : Try.prog.underlying 52 = some (.array 2 2) := by kernel_rfl
theorem eqInt (a b : Int) (w : World) : (Op.equalIn 9999 2 (.int .i64 a) (.int .i64 b)).run Try.prog w = .ok (a == b) w := run_equalIn_int w 9998 2 .i64 .i64 a b Try.underlying2
theorem pair_eq (a b c d : Int) (w : World) : (Op.equalIn 10000 52 (.agg #[.int .i64 a, .int .i64 b]) (.agg #[.int .i64 c, .int .i64 d])).run Try.prog w =
    .ok (a == c && b == d) w := by
  unfold Op.equalIn
  simp only [Sem.run_bind, run_underlying under52, Result.andThen_ok, size2]
  rw [Std.Legacy.Range.forIn_eq_forIn_range']
  simp only [Std.Legacy.Range.size, List.range'_succ, List.range'_zero, Nat.sub_zero, Nat.add_sub_cancel, Nat.div_one, List.forIn_cons, List.forIn_nil, Sem.run_bind]
  cases h : (a == c) <;> cases h2 : (b == d) <;> simp [part0, part1, Sem.run_bind, eqInt, h, h2]

def toldV (a b : Int) : Int × Int × Bool := if mayB a b then (a, b, true) else (0, 0, false)

theorem told_any (a b : Int) (w : World) : Calls Try.prog 40 #[.int .i64 a, .int .i64 b] w fun e w' =>
    e = .returned (.tuple #[.int .i64 (toldV a b).1, .int .i64 (toldV a b).2.1, .bool (toldV a b).2.2]) ∧ w = w' := by
  unfold toldV
  cases h : mayB a b
  all_goals
    go_enter Try.func40, Try.ntmps40
    go_wp2_with (go_at_call 32; refine (rmay_any _ _ _).mono ?_; rintro e w' ⟨rfl, rfl⟩)
    go_ret3
    exact ⟨rfl, rfl⟩

theorem wrap_in {n : Int} (h1 : -9223372036854775808 ≤ n) (h2 : n ≤ 9223372036854775807) : wrap64 n = n := by unfold wrap64; omega

theorem radd_any (a b c d : Int) (w : World) : Calls Try.prog 27 #[.int .i64 a, .int .i64 b, .int .i64 c, .int .i64 d] w fun e w' =>
    e = .returned (.tuple #[.int .i64 (addV a b c d).1, .int .i64 (addV a b c d).2.1, .bool (addV a b c d).2.2]) ∧ w = w' := by
  by_cases h1 : mayB a b = true
  · by_cases h2 : mayB c d = true
    · obtain ⟨m1, m2, m3, m4⟩ := mayB_iff.1 h1
      obtain ⟨n1, n2, n3, n4⟩ := mayB_iff.1 h2
      have e1 : addV a b c d = toldV (a + c) (b + d) := by
        unfold addV bothV toldV
        rw [h1, h2]
        cases mayB (a + c) (b + d) <;> simp
      rw [e1]
      have hm := fun w => told_any (a + c) (b + d) w
      have HM := Lib.hid hm
      clear hm e1
      go_enter Try.func27, Try.ntmps27
      go_wp2_with (first | (go_at_call 32; refine (rmay_any _ _ _).mono ?_; rintro e w' ⟨rfl, rfl⟩) | (go_at_call 40; refine (HM.out _).mono ?_; rintro e w' ⟨rfl, rfl⟩))
      go_ret3
      exact ⟨rfl, rfl⟩
    · have h2' : mayB c d = false := by simpa using h2
      have e1 : addV a b c d = (0, 0, false) := by unfold addV bothV; rw [h2']; simp
      rw [e1]
      clear e1 h2
      go_enter Try.func27, Try.ntmps27
      go_wp2_with (first | (go_at_call 32; refine (rmay_any _ _ _).mono ?_; rintro e w' ⟨rfl, rfl⟩))
      go_ret3
      exact ⟨rfl, rfl⟩
  · have h1' : mayB a b = false := by simpa using h1
    have e1 : addV a b c d = (0, 0, false) := by unfold addV bothV; rw [h1']; simp
    rw [e1]
    clear e1 h1
    go_enter Try.func27, Try.ntmps27
    go_wp2_with (first | (go_at_call 32; refine (rmay_any _ _ _).mono ?_; rintro e w' ⟨rfl, rfl⟩))
    go_ret3
    exact ⟨rfl, rfl⟩

theorem rsub_any (a b c d : Int) (w : World) : Calls Try.prog 29 #[.int .i64 a, .int .i64 b, .int .i64 c, .int .i64 d] w fun e w' =>
    e = .returned (.tuple #[.int .i64 (subV a b c d).1, .int .i64 (subV a b c d).2.1, .bool (subV a b c d).2.2]) ∧ w = w' := by
  by_cases h1 : mayB a b = true
  · by_cases h2 : mayB c d = true
    · obtain ⟨m1, m2, m3, m4⟩ := mayB_iff.1 h1
      obtain ⟨n1, n2, n3, n4⟩ := mayB_iff.1 h2
      have e1 : subV a b c d = toldV (a - c) (b - d) := by
        unfold subV bothV toldV
        rw [h1, h2]
        cases mayB (a - c) (b - d) <;> simp
      rw [e1]
      have hm := fun w => told_any (a - c) (b - d) w
      have HM := Lib.hid hm
      clear hm e1
      go_enter Try.func29, Try.ntmps29
      go_wp2_with (first | (go_at_call 32; refine (rmay_any _ _ _).mono ?_; rintro e w' ⟨rfl, rfl⟩) | (go_at_call 40; refine (HM.out _).mono ?_; rintro e w' ⟨rfl, rfl⟩))
      go_ret3
      exact ⟨rfl, rfl⟩
    · have h2' : mayB c d = false := by simpa using h2
      have e1 : subV a b c d = (0, 0, false) := by unfold subV bothV; rw [h2']; simp
      rw [e1]
      clear e1 h2
      go_enter Try.func29, Try.ntmps29
      go_wp2_with (first | (go_at_call 32; refine (rmay_any _ _ _).mono ?_; rintro e w' ⟨rfl, rfl⟩))
      go_ret3
      exact ⟨rfl, rfl⟩
  · have h1' : mayB a b = false := by simpa using h1
    have e1 : subV a b c d = (0, 0, false) := by unfold subV bothV; rw [h1']; simp
    rw [e1]
    clear e1 h1
    go_enter Try.func29, Try.ntmps29
    go_wp2_with (first | (go_at_call 32; refine (rmay_any _ _ _).mono ?_; rintro e w' ⟨rfl, rfl⟩))
    go_ret3
    exact ⟨rfl, rfl⟩

theorem rmul_any (a b c d : Int) (w : World) : Calls Try.prog 30 #[.int .i64 a, .int .i64 b, .int .i64 c, .int .i64 d] w fun e w' =>
    e = .returned (.tuple #[.int .i64 (mulV a b c d).1, .int .i64 (mulV a b c d).2.1, .bool (mulV a b c d).2.2]) ∧ w = w' := by
  by_cases h1 : mayB a b = true
  · by_cases h2 : mayB c d = true
    · obtain ⟨m1, m2, m3, m4⟩ := mayB_iff.1 h1
      obtain ⟨n1, n2, n3, n4⟩ := mayB_iff.1 h2
      have e1 : mulV a b c d = toldV (a * c - b * d) (a * d + b * c) := by
        unfold mulV bothV toldV
        rw [h1, h2]
        cases mayB (a * c - b * d) (a * d + b * c) <;> simp
      rw [e1]
      have hm := fun w => told_any (a * c - b * d) (a * d + b * c) w
      have HM := Lib.hid hm
      have b1 := mul_bd m1 m2 n1 n2
      have b2 := mul_bd m3 m4 n3 n4
      have b3 := mul_bd m1 m2 n3 n4
      have b4 := mul_bd m3 m4 n1 n2
      clear hm e1
      go_enter Try.func30, Try.ntmps30
      go_wp2_with (first | (go_at_call 32; refine (rmay_any _ _ _).mono ?_; rintro e w' ⟨rfl, rfl⟩) | (go_at_call 40; refine (HM.out _).mono ?_; rintro e w' ⟨rfl, rfl⟩))
      go_ret3
      exact ⟨rfl, rfl⟩
    · have h2' : mayB c d = false := by simpa using h2
      have e1 : mulV a b c d = (0, 0, false) := by unfold mulV bothV; rw [h2']; simp
      rw [e1]
      clear e1 h2
      go_enter Try.func30, Try.ntmps30
      go_wp2_with (first | (go_at_call 32; refine (rmay_any _ _ _).mono ?_; rintro e w' ⟨rfl, rfl⟩))
      go_ret3
      exact ⟨rfl, rfl⟩
  · have h1' : mayB a b = false := by simpa using h1
    have e1 : mulV a b c d = (0, 0, false) := by unfold mulV bothV; rw [h1']; simp
    rw [e1]
    clear e1 h1
    go_enter Try.func30, Try.ntmps30
    go_wp2_with (first | (go_at_call 32; refine (rmay_any _ _ _).mono ?_; rintro e w' ⟨rfl, rfl⟩))
    go_ret3
    exact ⟨rfl, rfl⟩

theorem rconj_any (a b : Int) (w : World) : Calls Try.prog 31 #[.int .i64 a, .int .i64 b] w fun e w' =>
    e = .returned (.tuple #[.int .i64 (conjV a b).1, .int .i64 (conjV a b).2.1, .bool (conjV a b).2.2]) ∧ w = w' := by
  by_cases h1 : mayB a b = true
  · obtain ⟨m1, m2, m3, m4⟩ := mayB_iff.1 h1
    have e1 : conjV a b = toldV a (-b) := by
      unfold conjV bothV toldV
      rw [h1]
      cases mayB a (-b) <;> simp
    rw [e1]
    have hm := fun w => told_any a (-b) w
    have HM := Lib.hid hm
    clear hm e1
    have hneg : ∀ (w : World), (Op.unary .neg (.int .i64 b)).run Try.prog w = .ok (.int .i64 (-b)) w := fun w => by
      simp [Op.unary, Op.intArith, IntKind.wrap_i64]; omega
    go_enter Try.func31, Try.ntmps31
    go_wp2_with (first | (go_at_call 32; refine (rmay_any _ _ _).mono ?_; rintro e w' ⟨rfl, rfl⟩) | (go_at_call 40; refine (HM.out _).mono ?_; rintro e w' ⟨rfl, rfl⟩))
    go_ret3
    exact ⟨rfl, rfl⟩
  · have h1' : mayB a b = false := by simpa using h1
    have e1 : conjV a b = (0, 0, false) := by unfold conjV bothV; rw [h1']; simp
    rw [e1]
    clear e1 h1
    go_enter Try.func31, Try.ntmps31
    go_wp2_with (first | (go_at_call 32; refine (rmay_any _ _ _).mono ?_; rintro e w' ⟨rfl, rfl⟩))
    go_ret3
    exact ⟨rfl, rfl⟩

theorem rmeas_any (a b : Int) (w : World) : Calls Try.prog 33 #[.int .i64 a, .int .i64 b] w fun e w' => e = .returned (.int .i64 (measV a b)) ∧ w = w' := by
  unfold measV
  cases h : mayB a b
  · go_enter Try.func33, Try.ntmps33
    go_wp2_with (go_at_call 32; refine (rmay_any _ _ _).mono ?_; rintro e w' ⟨rfl, rfl⟩)
    go_ret
    exact ⟨rfl, rfl⟩
  · obtain ⟨m1, m2, m3, m4⟩ := mayB_iff.1 h
    have q1 := mul_bd m1 m2 m1 m2
    have q2 := mul_bd m3 m4 m3 m4
    go_enter Try.func33, Try.ntmps33
    go_wp2_with (go_at_call 32; refine (rmay_any _ _ _).mono ?_; rintro e w' ⟨rfl, rfl⟩)
    go_ret
    exact ⟨rfl, rfl⟩

end Go.Proofs.Ytkjmnmcekhnkmaa
