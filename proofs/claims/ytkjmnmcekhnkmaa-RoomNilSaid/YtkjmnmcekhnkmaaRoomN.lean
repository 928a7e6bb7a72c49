/- A look that nobody made (nil, or the zero one) reads nothing and has no room: the contracts and the law's walk, for every position and arena. -/
import Derived.Test.YtkjmnmcekhnkmaaProg
import Derived.WalkKit
import Derived.WalkLawsBesides
import Derived.KernelRfl
import Derived.Lib.Hide
import Derived.Handy
import Derived.Deep.RegionHeld3
import Derived.Deep.QuietTactic
import Derived.BigQuiet
namespace Go.Proofs.Ytkjmnmcekhnkmaa
open Go.RowKit
set_option linter.unusedSimpArgs false
set_option linter.unusedVariables false

theorem none_nil (w : World) : Calls Try.prog 34 #[.pointer none] w fun e w' => e = .returned (.bool true) ∧ w' = w := by
  go_enter Try.func34, Try.ntmps34
  go_wp2
  go_ret
  exact ⟨rfl, rfl⟩
theorem none_zero (g : Nat) (w : World) (h : w.cell? ⟨g, 0, none⟩ = some (.int .i64 0)) : Calls Try.prog 34 #[.pointer (some ⟨g, 0, none⟩)] w fun e w' => e = .returned (.bool true) ∧ w' = w := by
  go_enter Try.func34, Try.ntmps34
  go_wp2
  go_ret
  exact ⟨rfl, rfl⟩
theorem next_nil (w : World) : Calls Try.prog 17 #[.pointer none] w fun e w' => e = .returned (.tuple #[.int .i64 0, .bool false]) ∧ ∃ n, w' = w.drewN n := by
  go_enter Try.func17, Try.ntmps17
  go_wp2_with fail
  go_quiet ((go_at_call 34; exact Calls.quiet_of_same (none_nil _)))
  go_wp2_with fail
  go_ret2
  exact ⟨rfl, _, rfl⟩
theorem next_zero (g : Nat) (w : World) (h : w.cell? ⟨g, 0, none⟩ = some (.int .i64 0)) : Calls Try.prog 17 #[.pointer (some ⟨g, 0, none⟩)] w fun e w' => e = .returned (.tuple #[.int .i64 0, .bool false]) ∧ ∃ n, w' = w.drewN n := by
  go_enter Try.func17, Try.ntmps17
  go_wp2_with fail
  go_quiet ((go_at_call 34; exact Calls.quiet_of_same (none_zero _ _ (by simp [*]))))
  go_wp2_with fail
  go_ret2
  exact ⟨rfl, _, rfl⟩
theorem least_nil (w : World) : Calls Try.prog 18 #[.pointer none] w fun e w' => e = .returned (.tuple #[.int .i64 0, .bool false]) ∧ w' = w := by
  go_enter Try.func18, Try.ntmps18
  go_wp2_with (go_at_call 34; refine (none_nil _).mono ?_; rintro e w' ⟨rfl, rfl⟩)
  go_ret2
  exact ⟨rfl, rfl⟩
theorem least_zero (g : Nat) (w : World) (h : w.cell? ⟨g, 0, none⟩ = some (.int .i64 0)) : Calls Try.prog 18 #[.pointer (some ⟨g, 0, none⟩)] w fun e w' => e = .returned (.tuple #[.int .i64 0, .bool false]) ∧ w' = w := by
  go_enter Try.func18, Try.ntmps18
  go_wp2_with (go_at_call 34; refine (none_zero _ _ (by simp [*])).mono ?_; rintro e w' ⟨rfl, hq⟩; subst hq)
  go_ret2
  exact ⟨rfl, rfl⟩
theorem read_nil (p : Int) (w : World) : Calls Try.prog 19 #[.pointer none, .int .i64 p] w fun e w' => e = .returned (.int .i64 1) ∧ w' = w := by
  go_enter Try.func19, Try.ntmps19
  go_wp2_with (go_at_call 34; refine (none_nil _).mono ?_; rintro e w' ⟨rfl, rfl⟩)
  go_ret
  exact ⟨rfl, rfl⟩
theorem read_zero (g : Nat) (p : Int) (w : World) (h : w.cell? ⟨g, 0, none⟩ = some (.int .i64 0)) : Calls Try.prog 19 #[.pointer (some ⟨g, 0, none⟩), .int .i64 p] w fun e w' => e = .returned (.int .i64 1) ∧ w' = w := by
  go_enter Try.func19, Try.ntmps19
  go_wp2_with (go_at_call 34; refine (none_zero _ _ (by simp [*])).mono ?_; rintro e w' ⟨rfl, hq⟩; subst hq)
  go_ret
  exact ⟨rfl, rfl⟩
theorem room_nil (p l : Int) (w : World) : Calls Try.prog 20 #[.pointer none, .int .i64 p, .int .i64 l] w fun e w' => e = .returned (.bool false) ∧ w' = w := by
  go_enter Try.func20, Try.ntmps20
  go_wp2_with (go_at_call 18; refine (least_nil _).mono ?_; rintro e w' ⟨rfl, rfl⟩)
  go_ret
  exact ⟨rfl, rfl⟩
theorem room_zero (g : Nat) (p l : Int) (w : World) (h : w.cell? ⟨g, 0, none⟩ = some (.int .i64 0)) : Calls Try.prog 20 #[.pointer (some ⟨g, 0, none⟩), .int .i64 p, .int .i64 l] w fun e w' => e = .returned (.bool false) ∧ w' = w := by
  go_enter Try.func20, Try.ntmps20
  go_wp2_with (go_at_call 18; refine (least_zero _ _ (by simp [*])).mono ?_; rintro e w' ⟨rfl, hq⟩; subst hq)
  go_ret
  exact ⟨rfl, rfl⟩

theorem zero_look : ∃ zs : Array Value, (∀ w, (zeroValue 45).run Try.prog w = .ok (.agg zs) w) ∧ zs.size = 67 ∧ zs[0]? = some (.int .i64 0) :=
  ⟨#[.int .i64 0, .int .i64 0, .int .i64 0, .int .i64 0, .int .i64 0, .int .i64 0, .int .i64 0, .int .i64 0, .int .i64 0, .int .i64 0, .int .i64 0, .int .i64 0, .int .i64 0, .int .i64 0, .int .i64 0, .int .i64 0, .int .i64 0, .int .i64 0, .int .i64 0, .int .i64 0, .int .i64 0, .int .i64 0, .int .i64 0, .int .i64 0, .int .i64 0, .int .i64 0, .int .i64 0, .int .i64 0, .int .i64 0, .int .i64 0, .int .i64 0, .int .i64 0, .int .i64 0, .int .i64 0, .int .i64 0, .int .i64 0, .int .i64 0, .int .i64 0, .int .i64 0, .int .i64 0, .int .i64 0, .int .i64 0, .int .i64 0, .int .i64 0, .int .i64 0, .int .i64 0, .int .i64 0, .int .i64 0, .int .i64 0, .int .i64 0, .int .i64 0, .int .i64 0, .int .i64 0, .int .i64 0, .int .i64 0, .int .i64 0, .int .i64 0, .int .i64 0, .int .i64 0, .int .i64 0, .int .i64 0, .int .i64 0, .int .i64 0, .int .i64 0, .int .i64 0, .int .i64 0, .nilFunc], fun w => by kernel_rfl, rfl, rfl⟩

set_option maxRecDepth 100000 in
set_option maxHeartbeats 4000000 in
theorem roomNil_walk (p l : Int) (w : World) : Calls Try.prog 6 #[.int .i64 p, .int .i64 l] w fun e w' => e = .returned (.bool true) ∧ Below w.heap.size w w' := by
  obtain ⟨zs, hz, hs, h0⟩ := zero_look
  go_enter Try.func6, Try.ntmps6
  go_wp2_with fail
  obtain ⟨W, hW⟩ : ∃ W, W = (w.alloc (.cells zs 45)).alloc (.cells #[.pointer none, .pointer (some ⟨w.heap.size, 0, none⟩)] 41) := ⟨_, rfl⟩
  rw [← hW]
  have hB : Below w.heap.size w W := by rw [hW]; go_grown
  have c0 : W.cell? ⟨w.heap.size, 0, none⟩ = some (.int .i64 0) := by rw [hW]; simp [go_sem, h0]
  have c1 : W.cell? ⟨w.heap.size + 1, 0, none⟩ = some (.pointer none) := by rw [hW]; simp [go_sem]
  have c2 : W.cell? ⟨w.heap.size + 1, 1, none⟩ = some (.pointer (some ⟨w.heap.size, 0, none⟩)) := by rw [hW]; simp [go_sem]
  clear hW hz hs h0
  refine wp_loop_rounds 3 ?_
  rw [rounds_succ]
  go_wp2_with (first
    | (go_at_call_of 17 (Value.pointer none); refine (next_nil _).mono ?_; rintro e w' ⟨rfl, nq, rfl⟩)
    | (go_at_call_of 18 (Value.pointer none); refine (least_nil _).mono ?_; rintro e w' ⟨rfl, rfl⟩)
    | (go_at_call_of 19 (Value.pointer none); refine (read_nil _ _).mono ?_; rintro e w' ⟨rfl, rfl⟩)
    | (go_at_call_of 20 (Value.pointer none); refine (room_nil _ _ _).mono ?_; rintro e w' ⟨rfl, rfl⟩)
    | (go_at_call 17; refine (next_zero _ _ (by simp [*])).mono ?_; rintro e w' ⟨rfl, nq, rfl⟩)
    | (go_at_call 18; refine (least_zero _ _ (by simp [*])).mono ?_; rintro e w' ⟨rfl, rfl⟩)
    | (go_at_call 19; refine (read_zero _ _ _ (by simp [*])).mono ?_; rintro e w' ⟨rfl, rfl⟩)
    | (go_at_call 20; refine (room_zero _ _ _ _ (by simp [*])).mono ?_; rintro e w' ⟨rfl, rfl⟩)
    | fail)
  rw [rounds_succ]
  go_wp2_with (first
    | (go_at_call_of 17 (Value.pointer none); refine (next_nil _).mono ?_; rintro e w' ⟨rfl, nq, rfl⟩)
    | (go_at_call_of 18 (Value.pointer none); refine (least_nil _).mono ?_; rintro e w' ⟨rfl, rfl⟩)
    | (go_at_call_of 19 (Value.pointer none); refine (read_nil _ _).mono ?_; rintro e w' ⟨rfl, rfl⟩)
    | (go_at_call_of 20 (Value.pointer none); refine (room_nil _ _ _).mono ?_; rintro e w' ⟨rfl, rfl⟩)
    | (go_at_call 17; refine (next_zero _ _ (by simp [*])).mono ?_; rintro e w' ⟨rfl, nq, rfl⟩)
    | (go_at_call 18; refine (least_zero _ _ (by simp [*])).mono ?_; rintro e w' ⟨rfl, rfl⟩)
    | (go_at_call 19; refine (read_zero _ _ _ (by simp [*])).mono ?_; rintro e w' ⟨rfl, rfl⟩)
    | (go_at_call 20; refine (room_zero _ _ _ _ (by simp [*])).mono ?_; rintro e w' ⟨rfl, rfl⟩)
    | fail)
  rw [rounds_succ]
  go_wp2_with fail
  go_ret
  refine ⟨rfl, ?_⟩
  repeat (first | exact hB | refine below_drewN ?_ _)
end Go.Proofs.Ytkjmnmcekhnkmaa
