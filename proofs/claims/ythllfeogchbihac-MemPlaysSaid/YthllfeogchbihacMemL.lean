/- Memories: the chapter's example. -/
import Derived.Test.YthllfeogchbihacMemK
namespace Go.Proofs.Ythllfeogchbihac
open Go.RowKit
set_option linter.unusedSimpArgs false
set_option linter.unusedVariables false
theorem new_yes (w : World) {p q : Int} (h : 1 ≤ p ∧ p ≤ 64 ∧ 1 ≤ q ∧ q ≤ 64) (A : Option Addr) (n c : Nat) : Calls Try.prog 9 #[.int .i64 p, .int .i64 q, iagg A n c] w fun e W' => ∃ mg, e = .returned (.tuple #[.pointer (some ⟨mg, 0, none⟩), .int .i64 0]) ∧ MO w W' mg (newMe p q A n c) (fun b => b < w.heap.size) := by
  refine (new_any w p q A n c).mono ?_
  rintro e W' (⟨h1, -, -⟩ | ⟨-, h2⟩)
  · exfalso
    unfold arenaN at h1
    rw [if_neg (by omega)] at h1
    omega
  · exact h2
theorem new_no (w : World) {p q : Int} (h : arenaN p q = 0) (A : Option Addr) (n c : Nat) : Calls Try.prog 9 #[.int .i64 p, .int .i64 q, iagg A n c] w fun e W' => e = .returned (.tuple #[.pointer none, .int .i64 2]) ∧ Below w.heap.size w W' := by
  refine (new_any w p q A n c).mono ?_
  rintro e W' (⟨-, h1, h2⟩ | ⟨h1, -⟩)
  · exact ⟨h1, h2⟩
  · exfalso
    unfold arenaN at h
    rw [if_neg (by omega)] at h
    omega
section
variable {w W : World} {mg : Nat} {M : Me} {K : Nat → Prop}
theorem mo_arena (h : MO w W mg M K) : Calls Try.prog 27 #[.pointer (some ⟨mg, 0, none⟩)] W fun e W' => e = .returned (.int .i64 M.sl.length) ∧ W' = W := by
  obtain ⟨⟨pg, sg, h0, -, -, -⟩, -, -⟩ := h
  exact arena_at h0
theorem mo_procs (h : MO w W mg M K) : Calls Try.prog 26 #[.pointer (some ⟨mg, 0, none⟩)] W fun e W' => e = .returned (.int .i64 M.pr.length) ∧ W' = W := by
  obtain ⟨⟨pg, sg, h0, -, -, -⟩, -, -⟩ := h
  exact procs_at h0
theorem mo_steps (h : MO w W mg M K) (p : Int) : Calls Try.prog 25 #[.pointer (some ⟨mg, 0, none⟩), .int .i64 p] W fun e W' => e = .returned (.int .i64 (M.proc p).st) ∧ W' = W := by
  obtain ⟨⟨pg, sg, h0, -, -, -⟩, -, -⟩ := h
  exact steps_at h0 p
theorem mo_held (h : MO w W mg M K) (p : Int) : Calls Try.prog 13 #[.pointer (some ⟨mg, 0, none⟩), .int .i64 p] W fun e W' => e = .returned (sagg (M.slot p)) ∧ Below W.heap.size W W' := by
  obtain ⟨⟨pg, sg, h0, -, -, -⟩, -, -⟩ := h
  exact held_at h0 p
theorem mo_told (h : MO w W mg M K) (p : Int) : Calls Try.prog 22 #[.pointer (some ⟨mg, 0, none⟩), .int .i64 p] W fun e W' => e = .returned (.tuple #[aagg (M.proc p), .int .i64 (M.proc p).pos]) ∧ Below W.heap.size W W' := by
  obtain ⟨⟨pg, sg, h0, -, -, -⟩, -, -⟩ := h
  exact told_at h0 p
end
theorem field47 (i : Int) (a b c d e f : Value) (w : World) : (Instr.field 47 (.agg #[.int .i64 i, a, b, c, d, e, f]) 0).run Try.prog w = .ok (.int .i64 i) w := by kernel_rfl
def s6 : S7 := ⟨6, 0, 0, 0, 0⟩
def aw0 : Me := newMe 2 1 none 0 0
def aw1 : Me := swapM aw0 0 5 zs s6
def aw2 : Me := swapM aw1 1 5 zs s6
theorem aw_l : (aw0.sl.length : Int) = 6 := by decide
theorem aw_b1 : swapB aw0 0 5 zs = true := by decide
theorem aw_i1 : swapIs aw0 0 5 = true := by decide
theorem aw_b2 : swapB aw1 1 5 zs = false := by decide
theorem aw_i2 : swapIs aw1 1 5 = true := by decide
theorem aw_s0 : (aw2.proc 0).st = 1 := by kernel_rfl
theorem aw_s1 : (aw2.proc 1).st = 1 := by kernel_rfl
theorem aw_h : (aw2.slot 5).i = 6 := by decide
set_option maxRecDepth 100000 in
set_option maxHeartbeats 2000000 in
theorem awake_ok (w : World) : Calls Try.prog 7 #[] w fun e W' => e = .returned (.bool true) ∧ Below w.heap.size w W' := by
  have HN1 := Lib.hid (new_yes w (p := 2) (q := 1) (by decide) none 0 0)
  have HN2 := Lib.hid (fun w => new_no w (p := 65) (q := 1) (by decide) none 0 0)
  have HA2 := Lib.hid (fun w => arena_any w 0 1)
  have hfd := field47
  have HA3 : Hid (arenaN 0 1 = 0) := Lib.hid (by decide)
  go_enter Try.func7, Try.ntmps7
  go_wp2_with fail
  refine HN1.out.mono ?_
  rintro e w1 ⟨mg, rfl, h1⟩
  have H1 := Lib.hid h1
  clear h1
  go_wp2_with fail
  refine (HN2.out w1).mono ?_
  rintro e w2 ⟨rfl, h2⟩
  have H2 : Hid (MO w w2 mg aw0 (fun b => b < w.heap.size)) := Lib.hid (H1.out.below h2)
  clear h2
  go_wp2_with fail
  refine (mo_arena H2.out).mono ?_
  rintro e w3 ⟨rfl, rfl⟩
  rw [aw_l]
  go_wp2_with fail
  refine (HA2.out _).mono ?_
  rintro e w4 ⟨rfl, rfl⟩
  rw [HA3.out]
  go_wp2_with fail
  refine (swap_at H2.out 0 5 zs s6).mono ?_
  rintro e w5 ⟨rfl, h5, -⟩
  have H5 := Lib.hid h5
  clear h5
  rw [aw_b1, aw_i1]
  unfold bool2
  go_wp2_with fail
  refine (swap_at H5.out 1 5 zs s6).mono ?_
  rintro e w6 ⟨rfl, h6, -⟩
  have H6 : Hid (MO w w6 mg aw2 (fun b => b < w.heap.size)) := Lib.hid h6
  clear h6
  rw [show swapB (swapM aw0 0 5 zs s6) 1 5 zs = false from aw_b2, show swapIs (swapM aw0 0 5 zs s6) 1 5 = true from aw_i2]
  unfold bool2
  go_wp2_with fail
  refine (mo_steps H6.out 0).mono ?_
  rintro e w7 ⟨rfl, rfl⟩
  rw [aw_s0]
  go_wp2_with fail
  refine (mo_steps H6.out 1).mono ?_
  rintro e w8 ⟨rfl, rfl⟩
  rw [aw_s1]
  go_wp2_with fail
  refine (mo_held H6.out 5).mono ?_
  rintro e w9 ⟨rfl, hb9⟩
  have HB9 := Lib.hid (H6.out.below hb9)
  clear hb9
  unfold sagg
  rw [aw_h]
  go_wp2_with fail
  go_ret
  exact ⟨rfl, HB9.out.bw⟩
end Go.Proofs.Ythllfeogchbihac
