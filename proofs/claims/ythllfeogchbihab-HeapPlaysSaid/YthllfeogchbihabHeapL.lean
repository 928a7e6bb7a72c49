/- HeapApart's walk. -/
import Derived.Test.YthllfeogchbihabHeapK
import Derived.Deep.DeepCutAuto
namespace Go.Proofs.Ythllfeogchbihab
open Go.RowKit Go.Shelf
set_option linter.unusedSimpArgs false
set_option linter.unusedVariables false

/-- A slice of acts in memory. -/
def ActsAt (w : World) (A : Option Addr) (m : Nat) : Prop := ∀ i, i < m → ∃ g o k r x v, A = some ⟨g, o, none⟩ ∧ g < w.heap.size ∧ (0 ≤ k ∧ k ≤ 255) ∧ (-9223372036854775808 ≤ r ∧ r ≤ 9223372036854775807) ∧ (-9223372036854775808 ≤ x ∧ x ≤ 9223372036854775807) ∧
  (-9223372036854775808 ≤ v ∧ v ≤ 9223372036854775807) ∧ w.cell? ⟨g, o + i * 4, none⟩ = some (.int .u8 k) ∧ w.cell? ⟨g, o + i * 4 + 1, none⟩ = some (.int .i64 r) ∧ w.cell? ⟨g, o + i * 4 + 2, none⟩ = some (.int .i64 x) ∧ w.cell? ⟨g, o + i * 4 + 3, none⟩ = some (.int .i64 v)
theorem cells23 : Try.prog.cellsOf 23 = 4 := by kernel_rfl
theorem actsAt_of {w : World} {A : Option Addr} {m cap n : Nat} (h : deepOk Try.prog w (n + 4) 39 [.slice A m cap]) : ActsAt w A m := by
  obtain ⟨A', m', cap', e, -, -, h3⟩ := deepOk_slice Try.underlying39 h
  injection e with e
  injection e with e1 e2 e3
  subst e1 e2 e3
  intro i hi
  obtain ⟨g, o, es, e1, hg, hl, hc, hd⟩ := h3 (by rw [cells23]; decide) i hi
  rw [cells23] at hl hc
  obtain ⟨k, r, x, v, rfl, w0, w1, w2, w3⟩ := act_in hl hd
  refine ⟨g, o, k, r, x, v, e1, hg, wf_u8 w0, wf_i64' w1, wf_i64' w2, wf_i64' w3, hc 0 (by omega), ?_, ?_, ?_⟩
  · rw [Nat.add_assoc]; exact hc 1 (by omega)
  · rw [Nat.add_assoc]; exact hc 2 (by omega)
  · rw [Nat.add_assoc]; exact hc 3 (by omega)

set_option maxRecDepth 100000 in
set_option maxHeartbeats 4000000 in
theorem apart_out (words : Int) (A : Option Addr) (m cap : Nat) (w : World) (h : words < 0 ∨ 60 < words ∨ 60 < m) :
    Calls Try.prog 5 #[.int .i64 words, .slice A m cap] w fun e w' => e = .returned (.bool true) ∧ Below w.heap.size w w' := by
  have h3 : 60 < m → (60 : Int) < (m : Int) := by omega
  by_cases h1 : words < 0
  · clear h h3
    go_enter Try.func5, Try.ntmps5
    go_wp2_with fail
    refine (awake_ok _).mono ?_
    rintro e w1 ⟨rfl, hb⟩
    go_wp2_with fail
    go_ret
    exact ⟨rfl, hb⟩
  by_cases h2 : 60 < words
  · clear h h3
    go_enter Try.func5, Try.ntmps5
    go_wp2_with fail
    refine (awake_ok _).mono ?_
    rintro e w1 ⟨rfl, hb⟩
    go_wp2_with fail
    go_ret
    exact ⟨rfl, hb⟩
  have h4 := h3 (by omega)
  clear h h3
  go_enter Try.func5, Try.ntmps5
  go_wp2_with fail
  refine (awake_ok _).mono ?_
  rintro e w1 ⟨rfl, hb⟩
  go_wp2_with fail
  go_ret
  exact ⟨rfl, hb⟩

end Go.Proofs.Ythllfeogchbihab
