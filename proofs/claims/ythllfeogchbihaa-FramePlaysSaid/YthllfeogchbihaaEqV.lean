/- Values compared. -/
import Derived.Test.YthllfeogchbihaaFrameA
import Derived.Laws.StructEq
namespace Go.Proofs.Ythllfeogchbihaa
open Go.RowKit
set_option linter.unusedSimpArgs false
theorem eqv_in (a b c a' b' c' : Int) (w : World) : (Op.equalIn 10000 37 (.agg #[.int .u8 a, .int .i64 b, .int .i64 c]) (.agg #[.int .u8 a', .int .i64 b', .int .i64 c'])).run Try.prog w = .ok (decide ((a, b, c) = (a', b', c'))) w := by
  simp [go_sem]
  split
  · split
    · split <;> simp_all
    · simp_all
  · simp_all
theorem val_eql (a b c a' b' c' : Int) (w : World) (q : Bool) (h : decide ((a, b, c) = (a', b', c')) = q) : (binOp .eql 37 (.agg #[.int .u8 a, .int .i64 b, .int .i64 c]) (.agg #[.int .u8 a', .int .i64 b', .int .i64 c'])).run Try.prog w = .ok (.bool q) w := by
  rw [run_eql_struct, eqv_in, h]
  rfl
theorem val_neq (a b c a' b' c' : Int) (w : World) (q : Bool) (h : decide ((a, b, c) = (a', b', c')) = q) : (binOp .neq 37 (.agg #[.int .u8 a, .int .i64 b, .int .i64 c]) (.agg #[.int .u8 a', .int .i64 b', .int .i64 c'])).run Try.prog w = .ok (.bool (!q)) w := by
  rw [run_neq_struct, eqv_in, h]
  rfl
end Go.Proofs.Ythllfeogchbihaa
