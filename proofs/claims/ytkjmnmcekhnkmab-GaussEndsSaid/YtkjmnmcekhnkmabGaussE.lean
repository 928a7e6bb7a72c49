/- Equality of two pairs as the model runs it. -/
import Derived.Test.YtkjmnmcekhnkmabGaussB
namespace Go.Proofs.Ytkjmnmcekhnkmab
open Go.RowKit

theorem part0 (x y : Value) (w : World) : (part 2 #[x, y] 0).run Try.prog w = .ok x w := by kernel_rfl
theorem part1 (x y : Value) (w : World) : (part 2 #[x, y] 1).run Try.prog w = .ok y w := by kernel_rfl
theorem size2 (w : World) : (sizeOf 2).run Try.prog w = .ok 1 w := by kernel_rfl
theorem under52 : Try.prog.underlying 24 = some (.array 2 2) := by kernel_rfl
theorem eqInt (a b : Int) (w : World) : (Op.equalIn 9999 2 (.int .i64 a) (.int .i64 b)).run Try.prog w = .ok (a == b) w := run_equalIn_int w 9998 2 .i64 .i64 a b Try.underlying2
theorem pair_eq (a b c d : Int) (w : World) : (Op.equalIn 10000 24 (.agg #[.int .i64 a, .int .i64 b]) (.agg #[.int .i64 c, .int .i64 d])).run Try.prog w =
    .ok (a == c && b == d) w := by
  unfold Op.equalIn
  simp only [Sem.run_bind, run_underlying under52, Result.andThen_ok, size2]
  rw [Std.Legacy.Range.forIn_eq_forIn_range']
  simp only [Std.Legacy.Range.size, List.range'_succ, List.range'_zero, Nat.sub_zero, Nat.add_sub_cancel, Nat.div_one, List.forIn_cons, List.forIn_nil, Sem.run_bind]
  cases h : (a == c) <;> cases h2 : (b == d) <;> simp [part0, part1, Sem.run_bind, eqInt, h, h2]

end Go.Proofs.Ytkjmnmcekhnkmab
