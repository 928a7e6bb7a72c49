/- A heap that nobody made has nothing, and takes nothing: for every act. -/
import Derived.Test.YthllfeogchbihabHeapC
import Derived.Test.YthllfeogchbihabOpen
namespace Go.Proofs.Ythllfeogchbihab
open Go.RowKit

theorem cells5 : Try.prog.cellsOf 5 = 1 := by kernel_rfl
theorem cells2 : Try.prog.cellsOf 2 = 1 := by kernel_rfl
/-- An act, opened. -/
theorem act_in {W : World} {cs : List Value} {n : Nat} (hl : cs.length = 4) (h : deepOk Try.prog W (n + 2) 23 cs) :
    ∃ k ref i v, cs = [.int .u8 k, .int .i64 ref, .int .i64 i, .int .i64 v] ∧ (Lit.int .u8 k).wf = true ∧ (Lit.int .i64 ref).wf = true ∧ (Lit.int .i64 i).wf = true ∧ (Lit.int .i64 v).wf = true := by
  match cs, hl with
  | [x, y, z, u], _ =>
    have d0 := deepOk_at Try.underlying23 h 0 5 0 _ _ rfl rfl rfl cells5
    have d1 := deepOk_at Try.underlying23 h 1 2 1 _ _ rfl rfl rfl cells2
    have d2 := deepOk_at Try.underlying23 h 2 2 2 _ _ rfl rfl rfl cells2
    have d3 := deepOk_at Try.underlying23 h 3 2 3 _ _ rfl rfl rfl cells2
    obtain ⟨a, e0, w0⟩ := deepOk_int Try.underlying5 d0
    obtain ⟨b, e1, w1⟩ := deepOk_int Try.underlying2 d1
    obtain ⟨c, e2, w2⟩ := deepOk_int Try.underlying2 d2
    obtain ⟨d, e3, w3⟩ := deepOk_int Try.underlying2 d3
    injection e0 with e0
    injection e1 with e1
    injection e2 with e2
    injection e3 with e3
    subst e0 e1 e2 e3
    exact ⟨a, b, c, d, rfl, w0, w1, w2, w3⟩

theorem heapNil_all (c : Array Value) (w : World) (s : c.size = Try.prog.cellsOf 23) (d : deepOk Try.prog w 8 23 c.toList) :
    Calls Try.prog 3 #[.agg c] w fun e W' => e = .returned (.bool true) ∧ Below w.heap.size w W' := by
  rw [show Try.prog.cellsOf 23 = 4 by kernel_rfl] at s
  obtain ⟨l⟩ := c
  obtain ⟨k, ref, i, v, e, -⟩ := act_in (by simpa using s) d
  simp only at e
  subst e
  exact heapNil_walk k ref i v w
#print axioms heapNil_all
end Go.Proofs.Ythllfeogchbihab
