/- Memories: plain facts; the arguments of the laws; the walk of MemOne. -/
import Derived.Test.YthllfeogchbihacMemL
import Derived.Test.YthllfeogchbihacOpen
import Derived.Deep.DeepCutAuto
namespace Go.Proofs.Ythllfeogchbihac
open Go.RowKit
set_option linter.unusedSimpArgs false
set_option linter.unusedVariables false
theorem Me.slot_tick (M : Me) (i : Nat) (a : Int) : (M.tick i).slot a = M.slot a := rfl
theorem Me.slot_put (M : Me) {i j : Nat} (x : S7) (hi : i < M.sl.length) (hj : j < M.sl.length) : (M.put i x).slot j = if i = j then x else M.slot j := by
  have hl : (M.put i x).sl.length = M.sl.length := List.length_set
  rw [Me.slot_yes (by rw [hl]; exact hj), Me.slot_yes hj]
  show (M.sl.set i x)[j]'(by simpa using hj) = _
  rw [List.getElem_set]
structure OneI (M : Me) (p N a k : Nat) : Prop where
  lp : M.pr.length = p
  ls : M.sl.length = N
  hs : (M.slot a).i = if k = 0 then 0 else 1
  hn : M.sn.i = if k = 0 then 0 else 1
def s1 (k : Int) : S7 := ⟨k, 0, 0, 0, 0⟩
def n1 (k : Int) : N7 := ⟨k, none, 0, 0⟩
section
variable {M : Me} {p N a k pp : Nat}
theorem one_is (h : OneI M p N a k) (hp : pp < p) (ha : a < N) : swapIs M pp a = true := by
  unfold swapIs
  rw [hasB_nat (by rw [h.lp]; exact hp), hasB_nat (by rw [h.ls]; exact ha)]
  rfl
theorem one_b (h : OneI M p N a k) (hp : pp < p) (ha : a < N) : swapB M pp a zs = decide (k = 0) := by
  unfold swapB
  rw [one_is h hp ha, h.hs]
  by_cases h0 : k = 0 <;> simp [h0, zs]
theorem one_h (h : OneI M p N a k) (hp : pp < p) : hasB M.pr.length (pp : Int) = true := hasB_nat (by rw [h.lp]; exact hp)
structure TwoI (M : Me) (p N a k : Nat) : Prop where
  lp : M.pr.length = p
  ls : M.sl.length = N
  hs : (M.slot a).i = 1
  hn : M.sn.i = if k = 0 then 0 else 1
theorem one_m (h : OneI M p N a k) (hp : pp < p) (ha : a < N) : TwoI (swapM M pp a zs (s1 (1 + k))) p N a k := by
  unfold swapM
  rw [if_pos (one_is h hp ha), Int.toNat_natCast, Int.toNat_natCast]
  by_cases h0 : k = 0
  · have e : (M.slot a).i = zs.i := by rw [h.hs, if_pos h0]; rfl
    rw [if_pos e]
    refine ⟨?_, ?_, ?_, ?_⟩
    · show (List.set _ _ _).length = p
      rw [List.length_set]; exact h.lp
    · show (List.set _ _ _).length = N
      rw [List.length_set]; exact h.ls
    · rw [Me.slot_tick, Me.slot_put _ _ (by rw [h.ls]; exact ha) (by rw [h.ls]; exact ha), if_pos rfl, h0]; rfl
    · exact h.hn
  · have e : ¬ (M.slot a).i = zs.i := by rw [h.hs, if_neg h0]; decide
    rw [if_neg e]
    refine ⟨?_, h.ls, ?_, h.hn⟩
    · show (List.set _ _ _).length = p
      rw [List.length_set]; exact h.lp
    · rw [Me.slot_tick, h.hs, if_neg h0]
theorem two_h (h : TwoI M p N a k) (hp : pp < p) : hasB M.pr.length (pp : Int) = true := hasB_nat (by rw [h.lp]; exact hp)
theorem two_b (h : TwoI M p N a k) : decide (M.sn.i = 0) = decide (k = 0) := by
  rw [h.hn]
  by_cases h0 : k = 0 <;> simp [h0]
structure ThreeI (M : Me) (p N a : Nat) : Prop where
  lp : M.pr.length = p
  ls : M.sl.length = N
  hs : (M.slot a).i = 1
  hn : M.sn.i = 1
theorem two_m (h : TwoI M p N a k) (hp : pp < p) : ThreeI (swapsM M pp 0 (n1 (1 + k))) p N a := by
  unfold swapsM
  rw [if_pos (two_h h hp), Int.toNat_natCast]
  by_cases h0 : k = 0
  · have e : M.sn.i = 0 := by rw [h.hn, if_pos h0]
    rw [if_pos e]
    refine ⟨?_, h.ls, h.hs, ?_⟩
    · show (List.set _ _ _).length = p
      rw [List.length_set]; exact h.lp
    · show (1 + (k : Int)) = 1
      omega
  · have e : ¬ M.sn.i = 0 := by rw [h.hn, if_neg h0]; decide
    rw [if_neg e]
    refine ⟨?_, h.ls, h.hs, ?_⟩
    · show (List.set _ _ _).length = p
      rw [List.length_set]; exact h.lp
    · show M.sn.i = 1
      rw [h.hn, if_neg h0]
theorem three_h (h : ThreeI M p N a) (hp : pp < p) : hasB M.pr.length (pp : Int) = true := hasB_nat (by rw [h.lp]; exact hp)
theorem three_m (h : ThreeI M p N a) : ThreeI (M.tick pp) p N a := by
  refine ⟨?_, h.ls, h.hs, h.hn⟩
  show (List.set _ _ _).length = p
  rw [List.length_set]; exact h.lp
theorem three_i (h : ThreeI M p N a) (j : Nat) : OneI M p N a (j + 1) := ⟨h.lp, h.ls, by rw [if_neg (by omega)]; exact h.hs, by rw [if_neg (by omega)]; exact h.hn⟩
theorem one_0 {q : Nat} (ha : a < 2 * q + 2 * p) : OneI (newMe p q none 0 0) p (2 * q + 2 * p) a 0 := by
  have hl : (newMe p q none 0 0).sl.length = 2 * q + 2 * p := by
    show (List.replicate _ _).length = _
    rw [List.length_replicate]; omega
  refine ⟨?_, hl, ?_, rfl⟩
  · show (List.replicate _ _).length = _
    rw [List.length_replicate]; omega
  · rw [Me.slot_yes (by rw [hl]; exact ha)]
    have e := List.eq_of_mem_replicate (List.getElem_mem (l := List.replicate (2 * (q : Int) + 2 * (p : Int)).toNat zs) (n := a) (by rw [List.length_replicate]; omega))
    exact congrArg S7.i e
end
/-- A slice of accesses in memory. -/
def MActs (w : World) (A : Option Addr) (m : Nat) : Prop := ∀ i, i < m → ∃ g o k p q x y z, A = some ⟨g, o, none⟩ ∧ g < w.heap.size ∧ (0 ≤ k ∧ k ≤ 255) ∧ I64 p ∧ I64 q ∧ I64 x ∧ I64 y ∧ I64 z ∧
  w.cell? ⟨g, o + i * 6, none⟩ = some (.int .u8 k) ∧ w.cell? ⟨g, o + i * 6 + 1, none⟩ = some (.int .i64 p) ∧ w.cell? ⟨g, o + i * 6 + 2, none⟩ = some (.int .i64 q) ∧ w.cell? ⟨g, o + i * 6 + 3, none⟩ = some (.int .i64 x) ∧ w.cell? ⟨g, o + i * 6 + 4, none⟩ = some (.int .i64 y) ∧ w.cell? ⟨g, o + i * 6 + 5, none⟩ = some (.int .i64 z)
theorem cells38 : Try.prog.cellsOf 38 = 6 := by kernel_rfl
theorem cells3 : Try.prog.cellsOf 3 = 1 := by kernel_rfl
theorem cells5 : Try.prog.cellsOf 5 = 1 := by kernel_rfl
set_option maxRecDepth 100000 in
/-- An access, opened. -/
theorem mact_in {W : World} {cs : List Value} {n : Nat} (hl : cs.length = 6) (h : deepOk Try.prog W (n + 2) 38 cs) :
    ∃ k p q x y z, cs = [.int .u8 k, .int .i64 p, .int .i64 q, .int .i64 x, .int .i64 y, .int .i64 z] ∧ (Lit.int .u8 k).wf = true ∧ (Lit.int .i64 p).wf = true ∧ (Lit.int .i64 q).wf = true ∧ (Lit.int .i64 x).wf = true ∧ (Lit.int .i64 y).wf = true ∧ (Lit.int .i64 z).wf = true := by
  match cs, hl with
  | [x, y, z, u, v, w], _ =>
    have d0 := deepOk_at Try.underlying38 h 0 5 0 _ _ rfl rfl rfl cells5
    have d1 := deepOk_at Try.underlying38 h 1 3 1 _ _ rfl rfl rfl cells3
    have d2 := deepOk_at Try.underlying38 h 2 3 2 _ _ rfl rfl rfl cells3
    have d3 := deepOk_at Try.underlying38 h 3 3 3 _ _ rfl rfl rfl cells3
    have d4 := deepOk_at Try.underlying38 h 4 3 4 _ _ rfl rfl rfl cells3
    have d5 := deepOk_at Try.underlying38 h 5 3 5 _ _ rfl rfl rfl cells3
    obtain ⟨a, e0, w0⟩ := deepOk_int Try.underlying5 d0
    obtain ⟨b, e1, w1⟩ := deepOk_int Try.underlying3 d1
    obtain ⟨c, e2, w2⟩ := deepOk_int Try.underlying3 d2
    obtain ⟨d, e3, w3⟩ := deepOk_int Try.underlying3 d3
    obtain ⟨f, e4, w4⟩ := deepOk_int Try.underlying3 d4
    obtain ⟨g, e5, w5⟩ := deepOk_int Try.underlying3 d5
    injection e0 with e0
    injection e1 with e1
    injection e2 with e2
    injection e3 with e3
    injection e4 with e4
    injection e5 with e5
    subst e0 e1 e2 e3 e4 e5
    exact ⟨a, b, c, d, f, g, rfl, w0, w1, w2, w3, w4, w5⟩
set_option maxRecDepth 100000 in
theorem macts_of {w : World} {A : Option Addr} {m cap n : Nat} (h : deepOk Try.prog w (n + 4) 22 [.slice A m cap]) : MActs w A m := by
  obtain ⟨A', m', cap', e, -, -, h3⟩ := deepOk_slice Try.underlying22 h
  injection e with e
  injection e with e1 e2 e3
  subst e1 e2 e3
  intro i hi
  obtain ⟨g, o, es, e1, hg, hl, hc, hd⟩ := h3 (by rw [cells38]; decide) i hi
  rw [cells38] at hl hc
  obtain ⟨k, p, q, x, y, z, rfl, w0, w1, w2, w3, w4, w5⟩ := mact_in hl hd
  refine ⟨g, o, k, p, q, x, y, z, e1, hg, wf_u8 w0, wf_i64' w1, wf_i64' w2, wf_i64' w3, wf_i64' w4, wf_i64' w5, hc 0 (by omega), ?_, ?_, ?_, ?_, ?_⟩
  · rw [Nat.add_assoc]; exact hc 1 (by omega)
  · rw [Nat.add_assoc]; exact hc 2 (by omega)
  · rw [Nat.add_assoc]; exact hc 3 (by omega)
  · rw [Nat.add_assoc]; exact hc 4 (by omega)
  · rw [Nat.add_assoc]; exact hc 5 (by omega)
end Go.Proofs.Ythllfeogchbihac
