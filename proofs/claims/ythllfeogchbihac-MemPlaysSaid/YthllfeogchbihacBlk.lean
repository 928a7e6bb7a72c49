/- A block of memory known whole: its cells as a list, none frozen; what a store, an allocation, a call do to it. -/
import Derived.Test.YthllfeogchbihacProg
import Derived.WalkKit
import Derived.Handy
import Derived.Deep.QuietTactic
namespace Go.Proofs.Ythllfeogchbihac
open Go.RowKit
set_option linter.unusedSimpArgs false
set_option linter.unusedVariables false

/-- Block b holds the values vs, and may be written. -/
structure Blk (w : World) (b : Nat) (vs : List Value) : Prop where
  c : ∀ (j : Nat) (v : Value), vs[j]? = some v → w.cell? ⟨b, j, none⟩ = some v
  f : ∀ o, w.frozen? ⟨b, o, none⟩ = false
  l : b < w.heap.size

theorem Blk.below {w w' : World} {b : Nat} {vs : List Value} (h : Blk w b vs) (hb : Below w.heap.size w w') : Blk w' b vs :=
  ⟨fun j v hj => (hb.cell (p := ⟨b, j, none⟩) h.l).trans (h.c j v hj), fun o => (hb.frozen (p := ⟨b, o, none⟩) h.l).trans (h.f o), Nat.lt_of_lt_of_le h.l hb.size⟩
theorem Blk.drewN {w : World} {b : Nat} {vs : List Value} (h : Blk w b vs) (k : Nat) : Blk (w.drewN k) b vs :=
  ⟨fun j v hj => by simpa using h.c j v hj, fun o => by simpa using h.f o, by simpa using h.l⟩
theorem Blk.drew {w : World} {b : Nat} {vs : List Value} (h : Blk w b vs) : Blk w.drew b vs := h.drewN 1
theorem Blk.set {w : World} {b : Nat} {vs : List Value} (h : Blk w b vs) {j : Nat} {u : Value} (hj : vs[j]? = some u) (v : Value) : Blk (w.setCell ⟨b, j, none⟩ v) b (vs.set j v) := by
  refine ⟨fun i x hi => ?_, fun o => by rw [World.frozen?_setCell]; exact h.f o, by simpa using h.l⟩
  by_cases e : i = j
  · subst e
    obtain ⟨hl, -⟩ := List.getElem?_eq_some_iff.1 hj
    rw [List.getElem?_set_self hl] at hi
    obtain rfl := Option.some.inj hi
    exact World.cell?_setCell_same' _ _ _ (by rw [h.c i u hj]; rfl)
  · rw [List.getElem?_set_ne (fun e' => e e'.symm)] at hi
    rw [World.cell?_setCell_other _ _ _ _ (by intro e'; injection e' with e1 e2; omega)]
    exact h.c i x hi
theorem Blk.other {w : World} {b : Nat} {vs : List Value} (h : Blk w b vs) {b' : Nat} (hne : b' ≠ b) (j : Nat) (v : Value) : Blk (w.setCell ⟨b', j, none⟩ v) b vs :=
  ⟨fun i x hi => (World.cell?_setCell_other _ _ _ _ (by intro e'; injection e' with e1; omega)).trans (h.c i x hi), fun o => by rw [World.frozen?_setCell]; exact h.f o, by simpa using h.l⟩
theorem Blk.new (w : World) (cs : Array Value) (t : TypeId) : Blk (w.alloc (.cells cs t)) w.heap.size cs.toList :=
  ⟨fun j v hj => by rw [World.cell?_alloc_new]; simpa using hj, fun o => World.frozen?_alloc_new .., by simp⟩
theorem Blk.alloc {w : World} {b : Nat} {vs : List Value} (h : Blk w b vs) (o : Obj) : Blk (w.alloc o) b vs :=
  h.below ((Below.refl _ w).alloc (Nat.le_refl _) o)
/-- A store leaves the smaller part of the heap alone. -/
theorem Blk.below_set {w W : World} {n b : Nat} (hb : Below n w W) (hn : n ≤ b) (j : Nat) (v : Value) : Below n w (W.setCell ⟨b, j, none⟩ v) := hb.setCell (by exact hn) _
theorem below_next {w W w1 : World} (h0 : Below w.heap.size w W) (hb : Below W.heap.size W w1) : Below w.heap.size w w1 := h0.trans (hb.mono h0.size)

end Go.Proofs.Ythllfeogchbihac
