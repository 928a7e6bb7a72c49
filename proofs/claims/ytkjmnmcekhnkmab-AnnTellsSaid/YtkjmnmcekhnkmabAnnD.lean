/- Announcements (package ann): an operation's copy (entry.Copy): its numbers, and slices of its own. -/
import Derived.Test.YtkjmnmcekhnkmabAnnC
import Derived.Deep.RegionWith
import Derived.Deep.DeepCutAuto
namespace Go.Proofs.Ytkjmnmcekhnkmab
open Go.RowKit Go.Shelf
set_option linter.unusedSimpArgs false
set_option linter.unusedVariables false

theorem FreshIn.set {B : Nat} {V : World} {A : Option Addr} {cs : List Value} (hI : FreshIn B V A cs) (t o : Nat) (v : Value) (ht : t < B) : FreshIn B (V.setCell ⟨t, o, none⟩ v) A cs := fun j hj => by
  obtain ⟨g, hA, h1, h2, hc, hf⟩ := hI j hj
  exact ⟨g, hA, h1, by simpa using h2, by rw [World.cell?_setCell_other _ _ _ _ (by intro e'; injection e' with e1; omega)]; exact hc, by rw [World.frozen?_setCell]; exact hf⟩
theorem FreshIn.le {B B' : Nat} (h : B' ≤ B) {V : World} {A : Option Addr} {cs : List Value} (hI : FreshIn B V A cs) : FreshIn B' V A cs := fun j hj => by
  obtain ⟨g, hA, h1, h2, hc, hf⟩ := hI j hj
  exact ⟨g, hA, by omega, h2, hc, hf⟩

/-- An operation's slices, as they came. -/
structure OpIn (n₀ : Nat) (W : World) (A : Option Addr) (m : Nat) (B : Option Addr) (n : Nat) (xs ys : List Value) : Prop where
  na : A = none → m = 0
  nb : B = none → n = 0
  ma : m ≤ 3000
  mb : n ≤ 3000
  la : xs.length = m * 3
  lb : ys.length = n * 1
  oa : ∀ u ∈ xs, u.oneCell' = true
  ob : ∀ u ∈ ys, u.oneCell' = true
  ca : CellsIn n₀ W A xs
  cb : CellsIn n₀ W B ys
theorem OpIn.below {n₀ : Nat} {V W : World} (h : Below n₀ V W) {A B : Option Addr} {m n : Nat} {xs ys : List Value} (hI : OpIn n₀ V A m B n xs ys) : OpIn n₀ W A m B n xs ys :=
  { hI with ca := hI.ca.below h, cb := hI.cb.below h }
theorem OpIn.le {n₀ n₁ : Nat} {W : World} (h : n₀ ≤ n₁) {A B : Option Addr} {m n : Nat} {xs ys : List Value} (hI : OpIn n₀ W A m B n xs ys) : OpIn n₁ W A m B n xs ys :=
  { hI with ca := hI.ca.le h, cb := hI.cb.le h }

/-- Slices of an operation's copy: of its own, apart from one another. -/
structure OpOwn (B0 : Nat) (W : World) (A B : Option Addr) (xs ys : List Value) : Prop where
  ca : FreshIn B0 W A xs
  cb : FreshIn B0 W B ys
  ap : xs ≠ [] → ys ≠ [] → ∀ x y : Addr, A = some x → B = some y → x.block ≠ y.block

theorem OpOwn.set {B0 : Nat} {W : World} {A B : Option Addr} {xs ys : List Value} (h : OpOwn B0 W A B xs ys) (t o : Nat) (v : Value) (ht : t < B0) : OpOwn B0 (W.setCell ⟨t, o, none⟩ v) A B xs ys :=
  ⟨h.ca.set t o v ht, h.cb.set t o v ht, h.ap⟩
theorem OpOwn.le {B0 B1 : Nat} (hl : B1 ≤ B0) {W : World} {A B : Option Addr} {xs ys : List Value} (h : OpOwn B0 W A B xs ys) : OpOwn B1 W A B xs ys := ⟨h.ca.le hl, h.cb.le hl, h.ap⟩
theorem OpOwn.below {B0 : Nat} {V W : World} (hb : Below V.heap.size V W) {A B : Option Addr} {xs ys : List Value} (h : OpOwn B0 V A B xs ys) : OpOwn B0 W A B xs ys := ⟨h.ca.below hb, h.cb.below hb, h.ap⟩
theorem OpOwn.opIn {B0 : Nat} {V : World} {A B : Option Addr} {xs ys : List Value} (h : OpOwn B0 V A B xs ys) {A0 B1 : Option Addr} {n₀ m n : Nat} {W : World} (hI : OpIn n₀ W A0 m B1 n xs ys) (ha : A = none → m = 0) (hb : B = none → n = 0) : OpIn V.heap.size V A m B n xs ys :=
  { hI with na := ha, nb := hb, ca := h.ca.cells, cb := h.cb.cells }

/-- Two clones, one behind the other: apart. -/
theorem opOwn_ab {B0 : Nat} {w1 w2 w3 : World} {A B : Option Addr} {xs ys : List Value} (h0 : B0 ≤ w1.heap.size) (h1 : Below w1.heap.size w1 w2) (ha : FreshIn w1.heap.size w2 A xs) (h2 : Below w2.heap.size w2 w3) (hb : FreshIn w2.heap.size w3 B ys) : OpOwn B0 w3 A B xs ys := by
  refine ⟨(ha.below h2).le h0, hb.le (Nat.le_trans h0 h1.size), fun ea eb x y hx hy => ?_⟩
  obtain ⟨g, hA, h3, h4, -⟩ := ha 0 (List.length_pos_iff.2 ea)
  obtain ⟨g', hB, h3', h4', -⟩ := hb 0 (List.length_pos_iff.2 eb)
  rw [hx] at hA
  rw [hy] at hB
  obtain rfl := Option.some.inj hA
  obtain rfl := Option.some.inj hB
  show g ≠ g'
  omega
theorem opOwn_ba {B0 : Nat} {w1 w2 w3 : World} {A B : Option Addr} {xs ys : List Value} (h0 : B0 ≤ w1.heap.size) (h1 : Below w1.heap.size w1 w2) (hb : FreshIn w1.heap.size w2 B ys) (h2 : Below w2.heap.size w2 w3) (ha : FreshIn w2.heap.size w3 A xs) : OpOwn B0 w3 A B xs ys := by
  have h := opOwn_ab h0 h1 hb h2 ha
  exact ⟨h.cb, h.ca, fun ea eb x y hx hy e => h.ap eb ea y x hy hx e.symm⟩

theorem bcellA {W w1 : World} (hb : Below W.heap.size W w1) : (∀ b o, b < W.heap.size → w1.cell? ⟨b, o, none⟩ = W.cell? ⟨b, o, none⟩) ∧ (∀ b o, b < W.heap.size → w1.frozen? ⟨b, o, none⟩ = W.frozen? ⟨b, o, none⟩) :=
  ⟨fun b o h => hb.cell (p := ⟨b, o, none⟩) h, fun b o h => hb.frozen (p := ⟨b, o, none⟩) h⟩

/-- What a copy comes to. -/
def Copied (w : World) (k me : Int) (m n : Nat) (xs ys : List Value) (e : Ending) (w' : World) : Prop :=
  ∃ A' ca B' cb, e = .returned (.agg #[.int .u8 k, .int .i64 me, .slice A' m ca, .slice B' n cb]) ∧ Below w.heap.size w w' ∧ OpOwn w.heap.size w' A' B' xs ys

set_option maxRecDepth 100000 in
set_option maxHeartbeats 4000000 in
theorem copy_any (k me : Int) (A : Option Addr) (m ca : Nat) (B : Option Addr) (n cb : Nat) (xs ys : List Value) (w : World) (h : OpIn w.heap.size w A m B n xs ys) :
    Calls Try.prog 47 #[.agg #[.int .u8 k, .int .i64 me, .slice A m ca, .slice B n cb]] w fun e w' => Copied w k me m n xs ys e w' := by
  have hca : ∀ W, Below w.heap.size w W → Calls Try.prog 54 #[.slice A m ca] W fun e w' => Cloned W A m xs e w' := fun W hW =>
    cloneV_any A m ca xs W h.na h.ma h.la h.oa ((h.ca.below hW).le hW.size)
  have hcb : ∀ W, Below w.heap.size w W → Calls Try.prog 55 #[.slice B n cb] W fun e w' => Cloned W B n ys e w' := fun W hW =>
    cloneB_any B n cb ys W h.nb h.mb h.lb h.ob ((h.cb.below hW).le hW.size)
  have HA := Lib.hid hca
  have HB := Lib.hid hcb
  clear hca hcb h
  go_enter Try.func47, Try.ntmps47
  go_wp2_with fail
  obtain ⟨W, hW⟩ : ∃ W, (w.alloc (.cells #[.int .u8 k, .int .i64 me, .slice A m ca, .slice B n cb] 56)).alloc (.cells #[.int .u8 0, .int .i64 0, .slice none 0 0, .slice none 0 0] 56) = W := ⟨_, rfl⟩
  have z0 : W.heap.size = w.heap.size + 2 := by rw [← hW]; simp
  have hB0 : Below w.heap.size w W := by rw [← hW]; go_grown
  have d0 : W.cell? ⟨w.heap.size, 0, none⟩ = some (.int .u8 k) := by rw [← hW]; simp [go_sem]
  have d1 : W.cell? ⟨w.heap.size, 1, none⟩ = some (.int .i64 me) := by rw [← hW]; simp [go_sem]
  have d2 : W.cell? ⟨w.heap.size, 2, none⟩ = some (.slice A m ca) := by rw [← hW]; simp [go_sem]
  have d3 : W.cell? ⟨w.heap.size, 3, none⟩ = some (.slice B n cb) := by rw [← hW]; simp [go_sem]
  have r0 : W.cell? ⟨w.heap.size + 1, 0, none⟩ = some (.int .u8 0) := by rw [← hW]; simp [go_sem]
  have r1 : W.cell? ⟨w.heap.size + 1, 1, none⟩ = some (.int .i64 0) := by rw [← hW]; simp [go_sem]
  have r2 : W.cell? ⟨w.heap.size + 1, 2, none⟩ = some (.slice none 0 0) := by rw [← hW]; simp [go_sem]
  have r3 : W.cell? ⟨w.heap.size + 1, 3, none⟩ = some (.slice none 0 0) := by rw [← hW]; simp [go_sem]
  have g0 : ∀ o, W.frozen? ⟨w.heap.size, o, none⟩ = false := by intro o; rw [← hW]; simp [go_sem]
  have g1 : ∀ o, W.frozen? ⟨w.heap.size + 1, o, none⟩ = false := by intro o; rw [← hW]; simp [go_sem]
  rw [hW]
  have Z0 := Lib.hid z0
  clear hW z0
  go_region_with (first
    | (go_at_call 54; refine (HA.out _ hB0.drew).mono ?_; rintro e w1 ⟨A', c1, rfl, hb1, hf1⟩
       have hlt : w.heap.size + 1 < W.drew.heap.size := by have := Z0.out; simp; omega
       obtain ⟨q0, q1⟩ := bcellA hb1
       have d0 : w1.cell? ⟨w.heap.size, 0, none⟩ = some (.int .u8 k) := (q0 _ _ (by omega)).trans d0
       have d1 : w1.cell? ⟨w.heap.size, 1, none⟩ = some (.int .i64 me) := (q0 _ _ (by omega)).trans d1
       have d2 : w1.cell? ⟨w.heap.size, 2, none⟩ = some (.slice A m ca) := (q0 _ _ (by omega)).trans d2
       have d3 : w1.cell? ⟨w.heap.size, 3, none⟩ = some (.slice B n cb) := (q0 _ _ (by omega)).trans d3
       have r0 : w1.cell? ⟨w.heap.size + 1, 0, none⟩ = some (.int .u8 0) := (q0 _ _ (by omega)).trans r0
       have r1 : w1.cell? ⟨w.heap.size + 1, 1, none⟩ = some (.int .i64 0) := (q0 _ _ (by omega)).trans r1
       have r2 : w1.cell? ⟨w.heap.size + 1, 2, none⟩ = some (.slice none 0 0) := (q0 _ _ (by omega)).trans r2
       have r3 : w1.cell? ⟨w.heap.size + 1, 3, none⟩ = some (.slice none 0 0) := (q0 _ _ (by omega)).trans r3
       have g0 : ∀ o, w1.frozen? ⟨w.heap.size, o, none⟩ = false := fun o => (q1 _ _ (by omega)).trans (g0 o)
       have g1 : ∀ o, w1.frozen? ⟨w.heap.size + 1, o, none⟩ = false := fun o => (q1 _ _ (by omega)).trans (g1 o)
       have hB1 : Below w.heap.size w w1 := hB0.drew.trans (hb1.mono (by omega))
       have HF1 := Lib.hid hf1
       have HB1 := Lib.hid hb1
       clear q0 q1 hf1 hb1)
    | (go_at_call 55; refine (HB.out _ hB1).mono ?_; rintro e w2 ⟨B', c2, rfl, hb2, hf2⟩
       have hlt2 : w.heap.size + 1 < w1.heap.size := by have := HB1.out.size; omega
       obtain ⟨q0, q1⟩ := bcellA hb2
       have d0 : w2.cell? ⟨w.heap.size, 0, none⟩ = some (.int .u8 k) := (q0 _ _ (by omega)).trans d0
       have d1 : w2.cell? ⟨w.heap.size, 1, none⟩ = some (.int .i64 me) := (q0 _ _ (by omega)).trans d1
       have d2 : w2.cell? ⟨w.heap.size, 2, none⟩ = some (.slice A m ca) := (q0 _ _ (by omega)).trans d2
       have d3 : w2.cell? ⟨w.heap.size, 3, none⟩ = some (.slice B n cb) := (q0 _ _ (by omega)).trans d3
       have r0 : w2.cell? ⟨w.heap.size + 1, 0, none⟩ = some (.int .u8 0) := (q0 _ _ (by omega)).trans r0
       have r1 : w2.cell? ⟨w.heap.size + 1, 1, none⟩ = some (.int .i64 0) := (q0 _ _ (by omega)).trans r1
       have r2 : w2.cell? ⟨w.heap.size + 1, 2, none⟩ = some (.slice none 0 0) := (q0 _ _ (by omega)).trans r2
       have r3 : w2.cell? ⟨w.heap.size + 1, 3, none⟩ = some (.slice none 0 0) := (q0 _ _ (by omega)).trans r3
       have g0 : ∀ o, w2.frozen? ⟨w.heap.size, o, none⟩ = false := fun o => (q1 _ _ (by omega)).trans (g0 o)
       have g1 : ∀ o, w2.frozen? ⟨w.heap.size + 1, o, none⟩ = false := fun o => (q1 _ _ (by omega)).trans (g1 o)
       have hB2 : Below w.heap.size w w2 := hB1.trans (hb2.mono (by omega))
       have HO : Hid (OpOwn (w.heap.size + 2) w2 A' B' xs ys) := Lib.hid (opOwn_ab (by omega) HB1.out HF1.out hb2 hf2)
       clear q0 q1 hf2 hb2)
    | fail)
  all_goals
    go_wp2_with fail
    refine bodyPost_ret (v := .agg #[.int .u8 k, .int .i64 me, .slice A' m c1, .slice B' n c2]) (by simp [results, Try.results47, go_sem, *]) rfl ⟨A', c1, B', c2, rfl, ?_, ?_⟩
    · iterate 6 refine Below.setCell ?_ (by simp) _
      exact hB2
    · refine OpOwn.le (B0 := w.heap.size + 2) (by omega) ?_
      iterate 6 refine OpOwn.set ?_ _ _ _ (by omega)
      exact HO.out
#print axioms copy_any

end Go.Proofs.Ytkjmnmcekhnkmab
