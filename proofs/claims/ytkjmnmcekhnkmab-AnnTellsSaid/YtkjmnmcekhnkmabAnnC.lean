/- Announcements (package ann): what an operation's copy is: contracts of slices.Clone, bytes.Clone, entry.Copy. -/
import Derived.Test.YtkjmnmcekhnkmabAnnB
import Derived.OwnWalk
import Derived.Carry
import Derived.Maps.AppendAt
namespace Go.Proofs.Ytkjmnmcekhnkmab
open Go.RowKit Go.Shelf
set_option linter.unusedSimpArgs false
set_option linter.unusedVariables false

theorem an_parts {i? : Option TypeInfo} {z : Value} {s b : Nat} (h : i?.map (fun i => (i.zero, i.size, i.bytes)) = some (some z, s, b)) : ∃ i, i? = some i ∧ i.zero = some z ∧ i.size = s ∧ i.bytes = b := by
  cases i? with
  | none => cases h
  | some i => simp at h; exact ⟨i, rfl, h⟩

/-- A slice against nil. -/
theorem an_equalIn_nil {P : Program} (w : World) (d : Nat) (t e : TypeId) (a : Option Addr) (l c : Nat) (h : P.underlying t = some (.slice e)) : (Op.equalIn (d + 1) t (.slice a l c) (.slice none 0 0)).run P w = .ok a.isNone w := by
  cases a <;> simp [Op.equalIn, run_underlying h]
theorem an_equal_nil {P : Program} (w : World) (t e : TypeId) (a : Option Addr) (l c : Nat) (h : P.underlying t = some (.slice e)) : (Op.equal t (.slice a l c) (.slice none 0 0)).run P w = .ok a.isNone w := an_equalIn_nil w 9999 t e a l c h
theorem an_eql_nil {P : Program} (w : World) (t e : TypeId) (a : Option Addr) (l c : Nat) (h : P.underlying t = some (.slice e)) : (binOp .eql t (.slice a l c) (.slice none 0 0)).run P w = .ok (.bool a.isNone) w := by
  simp [binOp, an_equal_nil w t e a l c h]

theorem add_at (b o j : Nat) : (⟨b, o, none⟩ : Addr).add j = ⟨b, o + j, none⟩ := by unfold Addr.add; split <;> simp_all

/-- What lies behind a slice's address: the cells cs, in a block below n₀. -/
def CellsIn (n₀ : Nat) (W : World) (A : Option Addr) (cs : List Value) : Prop :=
  ∀ j, j < cs.length → ∃ b off, A = some ⟨b, off, none⟩ ∧ b < n₀ ∧ W.cell? ⟨b, off + j, none⟩ = cs[j]?
theorem CellsIn.below {n₀ : Nat} {V W : World} (h : Below n₀ V W) {A : Option Addr} {cs : List Value} (hI : CellsIn n₀ V A cs) : CellsIn n₀ W A cs := fun j hj => by
  obtain ⟨b, off, hA, hb, hc⟩ := hI j hj
  exact ⟨b, off, hA, hb, (h.cell (p := ⟨b, off + j, none⟩) hb).trans hc⟩
theorem CellsIn.le {n₀ n₁ : Nat} {W : World} (h : n₀ ≤ n₁) {A : Option Addr} {cs : List Value} (hI : CellsIn n₀ W A cs) : CellsIn n₁ W A cs := fun j hj => by
  obtain ⟨b, off, hA, hb, hc⟩ := hI j hj
  exact ⟨b, off, hA, by omega, hc⟩
/-- .. cells of the caller's own, made since the heap had B blocks. -/
def FreshIn (B : Nat) (W : World) (A : Option Addr) (cs : List Value) : Prop :=
  ∀ j, j < cs.length → ∃ g, A = some ⟨g, 0, none⟩ ∧ B ≤ g ∧ g < W.heap.size ∧ W.cell? ⟨g, j, none⟩ = cs[j]? ∧ W.frozen? ⟨g, j, none⟩ = false
theorem FreshIn.below {B : Nat} {V W : World} (h : Below V.heap.size V W) {A : Option Addr} {cs : List Value} (hI : FreshIn B V A cs) : FreshIn B W A cs := fun j hj => by
  obtain ⟨g, hA, h1, h2, hc, hf⟩ := hI j hj
  exact ⟨g, hA, h1, by have := h.size; omega, (h.cell (p := ⟨g, j, none⟩) h2).trans hc, (h.frozen (p := ⟨g, j, none⟩) h2).trans hf⟩
theorem FreshIn.cells {B : Nat} {W : World} {A : Option Addr} {cs : List Value} (hI : FreshIn B W A cs) : CellsIn W.heap.size W A cs := fun j hj => by
  obtain ⟨g, hA, h1, h2, hc, hf⟩ := hI j hj
  exact ⟨g, 0, hA, h2, by rw [Nat.zero_add]; exact hc⟩
/-- A clone of m elements, whose cells are cs. -/
def Cloned (w : World) (A : Option Addr) (m : Nat) (cs : List Value) (e : Ending) (w' : World) : Prop :=
  ∃ A' c', e = .returned (.slice A' m c') ∧ Below w.heap.size w w' ∧ FreshIn w.heap.size w' A' cs

theorem info68c : (Try.prog.info? 68).map (fun i => (i.zero, i.size, i.bytes)) = some (some (.agg #[.int .u8 0, .int .i64 0, .int .i64 0]), 3, 24) := by kernel_rfl
set_option maxRecDepth 100000 in
set_option maxHeartbeats 1000000 in
theorem cloneV_any (A : Option Addr) (m c : Nat) (cs : List Value) (w : World) (hn : A = none → m = 0) (hm : m ≤ 3000) (hl : cs.length = m * 3) (hone : ∀ u ∈ cs, u.oneCell' = true) (hc : CellsIn w.heap.size w A cs) :
    Calls Try.prog 54 #[.slice A m c] w fun e w' => Cloned w A m cs e w' := by
  obtain ⟨i0, hi, hz0, hz1, hz2⟩ := an_parts info68c
  match A with
  | none =>
    obtain rfl := hn rfl
    obtain rfl : cs = [] := List.length_eq_zero_iff.1 (by omega)
    clear hone hc hl hm hn
    have hq := fun W => an_eql_nil (P := Try.prog) W 53 68 none 0 c Try.underlying53
    go_enter Try.func54, Try.ntmps54
    go_wp2_with fail
    go_ret
    exact ⟨none, 0, rfl, Below.refl _ _, fun j hj => by simp at hj⟩
  | some ⟨b, off, sp⟩ =>
    have hsp : 0 < m → sp = none := fun h => by
      obtain ⟨b', o', e, -⟩ := hc 0 (by omega)
      injection e with e; injection e
    have hsrc : ∀ (W : World), Below w.heap.size w W → ∀ (j : Nat) (u : Value), cs[j]? = some u → W.cell? ((⟨b, off, sp⟩ : Addr).add j) = some u := by
      intro W hW j u hj
      obtain ⟨hjl, -⟩ := List.getElem?_eq_some_iff.1 hj
      obtain ⟨b', o', e, hb, hcell⟩ := hc j hjl
      injection e with e
      injection e with e1 e2 e3
      subst e1 e2 e3
      rw [add_at]
      exact (hW.cell (p := ⟨b, off + j, none⟩) hb).trans (hcell.trans hj)
    have HSRC := Lib.hid hsrc
    have HL := Lib.hid hl
    have HONE := Lib.hid hone
    have hown0 : (w.alloc (.cells #[] 68)).ownsRow w.heap.size 68 3 (.slice (some ⟨w.heap.size, 0, none⟩) 0 0) 0 [] := by
      refine ⟨rfl, .inr ⟨w.heap.size, 0, #[], rfl, Nat.le_refl _, ?_, Nat.le_refl _, by decide, rfl, rfl⟩⟩
      rw [World.alloc_heap_new]
    have HOWN := Lib.hid hown0
    clear hn hc hsp hsrc hl hone hown0
    have hq := fun W => an_eql_nil (P := Try.prog) W 53 68 (some ⟨b, off, sp⟩) m c Try.underlying53
    go_enter Try.func54, Try.ntmps54
    go_wp2_with (at_builtin; refine wpList_append_own _ rfl _ _ 53 rfl w.heap.size 68 i0 (.agg #[.int .u8 0, .int .i64 0, .int .i64 0]) 3 24 Try.underlying53 hi hz0 hz1 hz2 rfl (by decide) _ _ _ rfl HOWN.out ⟨b, off, sp⟩ m c cs rfl HL.out (HSRC.out _ (by go_grown)) HONE.out (by unfold maxLen; omega) (by omega) (by simp) ?_; intro v' w2 hown' hgrow hnil)
    go_ret
    have hB : Below w.heap.size w w2 := ((Below.refl _ w).alloc (Nat.le_refl _) _).grown hgrow (by simp) (fun k hk => by cases hk; exact Nat.le_refl _)
    obtain ⟨hx, hown2⟩ := id hown'
    simp only [Nat.zero_add, List.nil_append] at hx hown2 hown'
    rcases hown2 with ⟨rfl, rfl⟩ | ⟨g, cap, cur, rfl, -⟩
    · obtain rfl : cs = [] := List.length_eq_zero_iff.1 (by omega)
      exact ⟨none, 0, rfl, hB, fun j hj => by simp at hj⟩
    · refine ⟨_, cap, rfl, hB, fun j hj => ⟨g, rfl, (hown'.lt _ rfl).1, (hown'.lt _ rfl).2, hown'.cellAt _ (by omega), hown'.frozenAt _⟩⟩

theorem info5c : (Try.prog.info? 5).map (fun i => (i.zero, i.size, i.bytes)) = some (some (.int .u8 0), 1, 1) := by kernel_rfl
set_option maxRecDepth 100000 in
set_option maxHeartbeats 1000000 in
theorem cloneB_any (A : Option Addr) (m c : Nat) (cs : List Value) (w : World) (hn : A = none → m = 0) (hm : m ≤ 3000) (hl : cs.length = m * 1) (hone : ∀ u ∈ cs, u.oneCell' = true) (hc : CellsIn w.heap.size w A cs) :
    Calls Try.prog 55 #[.slice A m c] w fun e w' => Cloned w A m cs e w' := by
  obtain ⟨i0, hi, hz0, hz1, hz2⟩ := an_parts info5c
  match A with
  | none =>
    obtain rfl := hn rfl
    obtain rfl : cs = [] := List.length_eq_zero_iff.1 (by omega)
    clear hone hc hl hm hn
    have hq := fun W => an_eql_nil (P := Try.prog) W 54 5 none 0 c Try.underlying54
    go_enter Try.func55, Try.ntmps55
    go_wp2_with fail
    go_ret
    exact ⟨none, 0, rfl, Below.refl _ _, fun j hj => by simp at hj⟩
  | some ⟨b, off, sp⟩ =>
    have hsp : 0 < m → sp = none := fun h => by
      obtain ⟨b', o', e, -⟩ := hc 0 (by omega)
      injection e with e; injection e
    have hsrc : ∀ (W : World), Below w.heap.size w W → ∀ (j : Nat) (u : Value), cs[j]? = some u → W.cell? ((⟨b, off, sp⟩ : Addr).add j) = some u := by
      intro W hW j u hj
      obtain ⟨hjl, -⟩ := List.getElem?_eq_some_iff.1 hj
      obtain ⟨b', o', e, hb, hcell⟩ := hc j hjl
      injection e with e
      injection e with e1 e2 e3
      subst e1 e2 e3
      rw [add_at]
      exact (hW.cell (p := ⟨b, off + j, none⟩) hb).trans (hcell.trans hj)
    have HSRC := Lib.hid hsrc
    have HL := Lib.hid hl
    have HONE := Lib.hid hone
    have hown0 : (w.alloc (.cells #[] 5)).ownsRow w.heap.size 5 1 (.slice (some ⟨w.heap.size, 0, none⟩) 0 0) 0 [] := by
      refine ⟨rfl, .inr ⟨w.heap.size, 0, #[], rfl, Nat.le_refl _, ?_, Nat.le_refl _, by decide, rfl, rfl⟩⟩
      rw [World.alloc_heap_new]
    have HOWN := Lib.hid hown0
    clear hn hc hsp hsrc hl hone hown0
    have hq := fun W => an_eql_nil (P := Try.prog) W 54 5 (some ⟨b, off, sp⟩) m c Try.underlying54
    go_enter Try.func55, Try.ntmps55
    go_wp2_with (at_builtin; refine wpList_append_own _ rfl _ _ 54 rfl w.heap.size 5 i0 (.int .u8 0) 1 1 Try.underlying54 hi hz0 hz1 hz2 rfl (by decide) _ _ _ rfl HOWN.out ⟨b, off, sp⟩ m c cs rfl HL.out (HSRC.out _ (by go_grown)) HONE.out (by unfold maxLen; omega) (by omega) (by simp) ?_; intro v' w2 hown' hgrow hnil)
    go_ret
    have hB : Below w.heap.size w w2 := ((Below.refl _ w).alloc (Nat.le_refl _) _).grown hgrow (by simp) (fun k hk => by cases hk; exact Nat.le_refl _)
    obtain ⟨hx, hown2⟩ := id hown'
    simp only [Nat.zero_add, List.nil_append] at hx hown2 hown'
    rcases hown2 with ⟨rfl, rfl⟩ | ⟨g, cap, cur, rfl, -⟩
    · obtain rfl : cs = [] := List.length_eq_zero_iff.1 (by omega)
      exact ⟨none, 0, rfl, hB, fun j hj => by simp at hj⟩
    · refine ⟨_, cap, rfl, hB, fun j hj => ⟨g, rfl, (hown'.lt _ rfl).1, (hown'.lt _ rfl).2, hown'.cellAt _ (by omega), hown'.frozenAt _⟩⟩

end Go.Proofs.Ytkjmnmcekhnkmab
