/- What may have changed between two worlds: the old blocks of a set, and nothing else that was there. -/
import Derived.Test.YthllfeogchbihacBlk
import Derived.OwnWalk
import Derived.Carry
namespace Go.Proofs.Ythllfeogchbihac
open Go.RowKit
set_option linter.unusedSimpArgs false
set_option linter.unusedVariables false

structure Touch (S : Nat → Prop) (W W' : World) : Prop where
  os : W'.os = W.os
  tape : W'.tape = W.tape
  output : W'.output = W.output
  size : W.heap.size ≤ W'.heap.size
  block : ∀ k, k < W.heap.size → ¬ S k → W'.heap[k]? = W.heap[k]?

theorem Touch.refl (S : Nat → Prop) (W : World) : Touch S W W := ⟨rfl, rfl, rfl, Nat.le_refl _, fun _ _ _ => rfl⟩
theorem Touch.trans {S : Nat → Prop} {A B C : World} (h : Touch S A B) (k : Touch S B C) : Touch S A C :=
  ⟨k.os.trans h.os, k.tape.trans h.tape, k.output.trans h.output, Nat.le_trans h.size k.size, fun j hj hs => (k.block j (Nat.lt_of_lt_of_le hj h.size) hs).trans (h.block j hj hs)⟩
/-- Two changes, the later one to other blocks too, that were not there ahead of the first. -/
theorem Touch.trans' {S T : Nat → Prop} {A B C : World} (h : Touch S A B) (k : Touch T B C) (ht : ∀ j, j < A.heap.size → T j → S j) : Touch S A C :=
  ⟨k.os.trans h.os, k.tape.trans h.tape, k.output.trans h.output, Nat.le_trans h.size k.size, fun j hj hs => (k.block j (Nat.lt_of_lt_of_le hj h.size) (fun e => hs (ht j hj e))).trans (h.block j hj hs)⟩
theorem Touch.mono {S T : Nat → Prop} {A B : World} (h : Touch S A B) (hs : ∀ j, j < A.heap.size → S j → T j) : Touch T A B :=
  ⟨h.os, h.tape, h.output, h.size, fun j hj ht => h.block j hj (fun e => ht (hs j hj e))⟩
theorem Touch.of_below {n : Nat} {A B : World} (h : Below n A B) (hn : A.heap.size ≤ n) (S : Nat → Prop) : Touch S A B :=
  ⟨h.os, h.tape, h.output, by have := h.size; omega, fun j hj _ => h.block j (by omega)⟩
theorem Touch.below {S : Nat → Prop} {n : Nat} {A B : World} (h : Touch S A B) (hn : n ≤ A.heap.size) (hs : ∀ j, S j → n ≤ j) : Below n A B :=
  ⟨h.os, h.tape, h.output, h.size, fun j hj => h.block j (by omega) (fun e => by have := hs j e; omega)⟩
theorem Touch.alloc {S : Nat → Prop} {A B : World} (h : Touch S A B) (o : Obj) : Touch S A (B.alloc o) :=
  h.trans (Touch.of_below ((Below.refl _ B).alloc (Nat.le_refl _) o) (Nat.le_refl _) S)
theorem Touch.setCell {S : Nat → Prop} {A B : World} (h : Touch S A B) (a : Addr) (v : Value) (ha : a.block < A.heap.size → S a.block) : Touch S A (B.setCell a v) := by
  refine ⟨h.os, h.tape, h.output, by simpa using h.size, fun j hj hs => ?_⟩
  rw [← h.block j hj hs]
  have hne : a.block ≠ j := fun e => hs (e ▸ ha (e ▸ hj))
  simp [World.setCell, Array.getElem?_modify, hne]
theorem Touch.drew {S : Nat → Prop} {A B : World} (h : Touch S A B) : Touch S A B.drew := ⟨h.os, h.tape, h.output, h.size, h.block⟩
theorem Touch.drewN {S : Nat → Prop} {A B : World} (h : Touch S A B) (k : Nat) : Touch S A (B.drewN k) :=
  ⟨h.os, h.tape, h.output, h.size, h.block⟩
theorem Touch.grown {S : Nat → Prop} {A B C : World} (h : Touch S A B) {row : Option Nat} (hg : B.grownBy C row) (hr : ∀ k, row = some k → k < A.heap.size → S k) : Touch S A C :=
  ⟨hg.os.trans h.os, hg.tape.trans h.tape, hg.output.trans h.output, Nat.le_trans h.size hg.size, fun j hj hs => (hg.block j (Nat.lt_of_lt_of_le hj h.size) (fun e => hs (hr j e.symm hj))).trans (h.block j hj hs)⟩
theorem Touch.cell {S : Nat → Prop} {A B : World} (h : Touch S A B) {g o : Nat} (hg : g < A.heap.size) (hs : ¬ S g) : B.cell? ⟨g, o, none⟩ = A.cell? ⟨g, o, none⟩ := by
  unfold World.cell?
  simp only [h.block g hg hs]
theorem Touch.frozen {S : Nat → Prop} {A B : World} (h : Touch S A B) {g o : Nat} (hg : g < A.heap.size) (hs : ¬ S g) : B.frozen? ⟨g, o, none⟩ = A.frozen? ⟨g, o, none⟩ := by
  unfold World.frozen?
  simp only [h.block g hg hs]
theorem Blk.touch {S : Nat → Prop} {A B : World} {b : Nat} {vs : List Value} (h : Blk A b vs) (t : Touch S A B) (hs : ¬ S b) : Blk B b vs :=
  ⟨fun j v hj => (t.cell h.l hs).trans (h.c j v hj), fun o => (t.frozen h.l hs).trans (h.f o), Nat.lt_of_lt_of_le h.l t.size⟩
/-- A row that the slice value owns lies as it lay. -/
theorem Touch.row {S : Nat → Prop} {A B : World} (t : Touch S A B) {base : Nat} {e : TypeId} {size : Nat} {v : Value} {n : Nat} {xs : List Value} (h : A.ownsRow base e size v n xs)
    (hs : ∀ g o c, v = .slice (some ⟨g, 0, none⟩) o c → ¬ S g) : B.ownsRow base e size v n xs := by
  obtain ⟨hl, h⟩ := h
  refine ⟨hl, ?_⟩
  rcases h with h | ⟨g, cap, cur, hv, hb, hc, r⟩
  · exact .inl h
  · have hg : g < A.heap.size := (Array.getElem?_eq_some_iff.1 hc).1
    exact .inr ⟨g, cap, cur, hv, hb, (t.block g hg (hs g _ _ hv)).trans hc, r⟩

end Go.Proofs.Ythllfeogchbihac
