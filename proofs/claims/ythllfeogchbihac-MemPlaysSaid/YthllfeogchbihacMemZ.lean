/- MemPlays: Same.., the document's Arena and New. -/
import Derived.Test.YthllfeogchbihacMemY
import Derived.Laws.BytesArg
namespace Go.Proofs.Ythllfeogchbihac
open Go.RowKit
set_option linter.unusedSimpArgs false
set_option linter.unusedVariables false
theorem same_nil (w : World) : Calls Try.prog 58 #[.slice none 0 0, .slice none 0 0] w fun e W' => e = .returned (.bool true) ∧ W' = w := by
  go_enter Try.func58, Try.ntmps58
  go_wp2_with fail
  go_loopw [5] (fun i wr => i = .int .i64 0 ∧ wr = w) (fun i _ => 0)
  case atStart => exact ⟨rfl, rfl⟩
  case round =>
    obtain ⟨rfl, rfl⟩ := hrel
    go_wp2_with fail
    go_ret
    exact ⟨rfl, rfl⟩
set_option maxRecDepth 100000 in
theorem same_op (w : World) (k m : Int) : Calls Try.prog 55 #[.agg #[.int .u8 k, .int .i64 m, .slice none 0 0, .slice none 0 0], .agg #[.int .u8 k, .int .i64 m, .slice none 0 0, .slice none 0 0]] w fun e W' => e = .returned (.bool true) ∧ Below w.heap.size w W' := by
  have HS := Lib.hid same_nil
  obtain ⟨E, cv⟩ : ∃ E, ∀ w : World, (convert 41 9 (.slice none 0 0)).run Try.prog w = .ok (.string E) w := ⟨_, fun w => run_convert_bytes_nil w 41 5 Try.underlying41 Try.underlying5 0 0 9 Try.underlying9⟩
  have hb : Below w.heap.size w ((w.alloc (.cells #[.int .u8 k, .int .i64 m, .slice none 0 0, .slice none 0 0] 43)).alloc (.cells #[.int .u8 k, .int .i64 m, .slice none 0 0, .slice none 0 0] 43)) := ((Below.refl _ _).alloc (Nat.le_refl _) _).alloc (by simp) _
  have HB := Lib.hid hb
  clear hb
  go_enter Try.func55, Try.ntmps55
  go_wp2_with fail
  refine (HS.out _).mono ?_
  rintro e w1 ⟨rfl, rfl⟩
  go_wp2_with fail
  go_ret
  exact ⟨rfl, HB.out⟩
set_option maxRecDepth 100000 in
theorem same_entry (w : World) (p s k m : Int) : Calls Try.prog 57 #[.agg #[.int .i64 p, .int .i64 s, .int .u8 k, .int .i64 m, .slice none 0 0, .slice none 0 0], .agg #[.int .i64 p, .int .i64 s, .int .u8 k, .int .i64 m, .slice none 0 0, .slice none 0 0]] w fun e W' => e = .returned (.bool true) ∧ Below w.heap.size w W' := by
  have HS := Lib.hid same_op
  have hb : Below w.heap.size w ((w.alloc (.cells #[.int .i64 p, .int .i64 s, .int .u8 k, .int .i64 m, .slice none 0 0, .slice none 0 0] 45)).alloc (.cells #[.int .i64 p, .int .i64 s, .int .u8 k, .int .i64 m, .slice none 0 0, .slice none 0 0] 45)) := ((Below.refl _ _).alloc (Nat.le_refl _) _).alloc (by simp) _
  have HB := Lib.hid hb
  clear hb
  go_enter Try.func57, Try.ntmps57
  go_wp2_with fail
  refine (HS.out _ k m).mono ?_
  rintro e w1 ⟨rfl, hb1⟩
  have HB1 := Lib.hid (below_next HB.out hb1)
  clear hb1
  go_wp2_with fail
  go_ret
  exact ⟨rfl, HB1.out⟩
set_option maxRecDepth 100000 in
theorem same_ann (w : World) (x : P7) : Calls Try.prog 37 #[aagg x, aagg x] w fun e W' => e = .returned (.bool true) ∧ Below w.heap.size w W' := by
  have HS := Lib.hid same_op
  have hb : Below w.heap.size w ((w.alloc (.cells #[.int .i64 x.s, .int .u8 x.k, .int .i64 x.m, .slice none 0 0, .slice none 0 0] 68)).alloc (.cells #[.int .i64 x.s, .int .u8 x.k, .int .i64 x.m, .slice none 0 0, .slice none 0 0] 68)) := ((Below.refl _ _).alloc (Nat.le_refl _) _).alloc (by simp) _
  have HB := Lib.hid hb
  unfold aagg
  clear hb
  go_enter Try.func37, Try.ntmps37
  go_wp2_with fail
  refine (HS.out _ x.k x.m).mono ?_
  rintro e w1 ⟨rfl, hb1⟩
  have HB1 := Lib.hid (below_next HB.out hb1)
  clear hb1
  go_wp2_with fail
  go_ret
  exact ⟨rfl, HB1.out⟩
set_option maxRecDepth 100000 in
theorem same_slot (w : World) (x : S7) : Calls Try.prog 41 #[sagg x, sagg x] w fun e W' => e = .returned (.bool true) ∧ Below w.heap.size w W' := by
  have HS := Lib.hid same_entry
  have hb : Below w.heap.size w ((w.alloc (.cells #[.int .i64 x.i, .int .i64 x.p, .int .i64 x.s, .int .u8 x.k, .int .i64 x.m, .slice none 0 0, .slice none 0 0] 47)).alloc (.cells #[.int .i64 x.i, .int .i64 x.p, .int .i64 x.s, .int .u8 x.k, .int .i64 x.m, .slice none 0 0, .slice none 0 0] 47)) := ((Below.refl _ _).alloc (Nat.le_refl _) _).alloc (by simp) _
  have HB := Lib.hid hb
  unfold sagg
  clear hb
  go_enter Try.func41, Try.ntmps41
  go_wp2_with fail
  refine (HS.out _ x.p x.s x.k x.m).mono ?_
  rintro e w1 ⟨rfl, hb1⟩
  have HB1 := Lib.hid (below_next HB.out hb1)
  clear hb1
  go_wp2_with fail
  go_ret
  exact ⟨rfl, HB1.out⟩
/-- The numbers of a snapshot: none, or one that is x. -/
def SqAt (W : World) (A : Option Addr) (n : Nat) (xs : List Int) : Prop := xs.length = n ∧ n ≤ 1 ∧ ∀ (j : Nat) (u : Int), xs[j]? = some u → ∃ g, A = some ⟨g, 0, none⟩ ∧ g < W.heap.size ∧ W.cell? ⟨g, j, none⟩ = some (.int .i64 u)
set_option maxRecDepth 100000 in
theorem same_seqs (w : World) (A B : Option Addr) (n c d : Nat) (xs : List Int) (ha : SqAt w A n xs) (hb : SqAt w B n xs) : Calls Try.prog 44 #[.slice A n c, .slice B n d] w fun e W' => e = .returned (.bool true) ∧ Below w.heap.size w W' := by
  have n1 : (n : Int) ≤ 1 := by have := ha.2.1; omega
  have HA := Lib.hid ha
  have HB := Lib.hid hb
  clear ha hb
  go_enter Try.func44, Try.ntmps44
  go_wp2_with fail
  go_loopw [5] (fun i wr => ∃ j : Nat, j ≤ n ∧ i = .int .i64 j ∧ Below w.heap.size w wr) (fun i _ => n - (intOf i).toNat)
  case atStart => exact ⟨0, by omega, rfl, Below.refl _ _⟩
  case round =>
    obtain ⟨j, hj, rfl, hwr⟩ := hrel
    by_cases hlt : j < n
    · obtain ⟨u, hu⟩ : ∃ u, xs[j]? = some u := ⟨_, List.getElem?_eq_getElem (by rw [HA.out.1]; exact hlt)⟩
      obtain ⟨g, rfl, hg, hc⟩ := HA.out.2.2 j u hu
      obtain ⟨g', rfl, hg', hc'⟩ := HB.out.2.2 j u hu
      have x0 := (hwr.cell (p := ⟨g, j, none⟩) hg).trans hc
      have x1 := (hwr.cell (p := ⟨g', j, none⟩) hg').trans hc'
      have l0 := Nat.lt_of_lt_of_le hg hwr.size
      have l1 := Nat.lt_of_lt_of_le hg' hwr.size
      have HW := Lib.hid hwr
      have jn : (j : Int) < (n : Int) := by omega
      clear hc hc' hg hg' hu hwr
      go_wp2_with fail
      go_region
      go_wp2_with fail
      go_roundw
      case rel => exact ⟨j + 1, by omega, by go_num, below_drew HW.out⟩
      case measure => first | (simp [intOf]; done) | (simp [intOf]; omega)
    · obtain rfl : n = j := by omega
      have HW := Lib.hid hwr
      clear hwr
      go_wp2_with fail
      go_ret
      exact ⟨rfl, HW.out⟩
theorem rarena_any (w : World) (p q : Int) : Calls Try.prog 16 #[.int .i64 p, .int .i64 q] w fun e W' => e = .returned (.int .i64 (arenaN p q)) ∧ W' = w := by
  unfold arenaN
  by_cases h1 : p < 1
  · have h2 : ¬ (1 : Int) ≤ p := by omega
    rw [if_pos (.inl h1)]
    go_enter Try.func16, Try.ntmps16
    go_wp2_with fail
    go_ret
    exact ⟨rfl, rfl⟩
  by_cases h2 : 64 < p
  · rw [if_pos (.inr (.inl h2))]
    go_enter Try.func16, Try.ntmps16
    go_wp2_with fail
    go_ret
    exact ⟨rfl, rfl⟩
  by_cases h3 : q < 1
  · rw [if_pos (.inr (.inr (.inl h3)))]
    go_enter Try.func16, Try.ntmps16
    go_wp2_with fail
    go_ret
    exact ⟨rfl, rfl⟩
  by_cases h4 : 64 < q
  · rw [if_pos (.inr (.inr (.inr h4)))]
    go_enter Try.func16, Try.ntmps16
    go_wp2_with fail
    go_ret
    exact ⟨rfl, rfl⟩
  rw [if_neg (by omega)]
  have e1 : wrap64 (2 * q) = 2 * q := by unfold wrap64; omega
  have e2 : wrap64 (2 * p) = 2 * p := by unfold wrap64; omega
  have e3 : wrap64 (2 * q + 2 * p) = 2 * q + 2 * p := by unfold wrap64; omega
  go_enter Try.func16, Try.ntmps16
  go_wp2_with fail
  go_ret
  exact ⟨rfl, rfl⟩
end Go.Proofs.Ythllfeogchbihac
