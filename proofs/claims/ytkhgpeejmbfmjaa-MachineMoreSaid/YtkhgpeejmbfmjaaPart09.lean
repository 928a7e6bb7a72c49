/- Parts of the walk, joined. -/
import Derived.Test.YtkhgpeejmbfmjaaPart08
import Derived.Test.YtkhgpeejmbfmjaaPart01
/- The run in memory: two rows that grow, in whatever order. -/
namespace Go.Proofs.Ytkhgpeejmbfmjaa
open Go.RowKit
set_option linter.unusedSimpArgs false
set_option linter.unusedVariables false
set_option maxRecDepth 100000
section
variable {w0 W : World} {X : Sx} {rb : Nat} {fgs : List Nat} {c : Nat} {s : Mc} {K : Nat → Prop} {fg : Nat}

/-- Two rows each grow by one, in whatever order: what holds when the operations in L have come up. -/
structure GJ (V0 : World) (X : Sx) (rb gh : Nat) (sg : Value) (s : Mc) (SF SM : Value) (n m : Nat) (xs ys : List Value) (pf pm : Value) (L : Nat → Bool) (v0 v1 v2 v3 v4 v5 v6 v7 v8 v9 v10 v11 v12 v13 v14 v15 v16 v17 v18 v19 : Value) (V : World) : Prop where
  t : Touch (fun b => b = rb ∨ SF.ownBlock = some b ∨ SM.ownBlock = some b) V0 V
  b : ∃ c4 c5, Blk V rb (rcells X c4 c5 gh sg s) ∧ (L 18 = false → c4 = SF) ∧ (L 18 = true → c4 = v8) ∧ (L 21 = false → c5 = SM) ∧ (L 21 = true → c5 = v15)
  rF : L 8 = false → V.ownsRow (rb + 1) 66 1 SF n xs
  rF' : L 8 = true → V.ownsRow (rb + 1) 66 1 v8 (n + 1) (xs ++ [pf]) ∧ (v8.ownBlock = SF.ownBlock ∨ ∃ b, v8.ownBlock = some b ∧ V0.heap.size ≤ b)
  rM : L 15 = false → V.ownsRow (rb + 1) 3 1 SM m ys
  rM' : L 15 = true → V.ownsRow (rb + 1) 3 1 v15 (m + 1) (ys ++ [pm]) ∧ (v15.ownBlock = SM.ownBlock ∨ ∃ b, v15.ownBlock = some b ∧ V0.heap.size ≤ b)
  ne : ∀ b, (if L 8 = true then v8 else SF).ownBlock = some b → (if L 15 = true then v15 else SM).ownBlock ≠ some b
  bF : L 7 = true → L 8 = false → ∃ b, v7 = .slice (some ⟨b, 0, none⟩) 1 1 ∧ Blk V b [pf] ∧ V0.heap.size ≤ b ∧ (if L 15 = true then v15 else SM).ownBlock ≠ some b
  bM : L 14 = true → L 15 = false → ∃ b, v14 = .slice (some ⟨b, 0, none⟩) 1 1 ∧ Blk V b [pm] ∧ V0.heap.size ≤ b ∧ (if L 8 = true then v8 else SF).ownBlock ≠ some b
  q8 : L 8 = true → L 5 = true
  q15 : L 15 = true → L 12 = true
  q18 : L 18 = true → L 8 = true
  q21 : L 21 = true → L 15 = true
  t0 : L 0 = true → v0 = .pointer (some ⟨rb, 0, none⟩)
  t1 : L 1 = true → v1 = .pointer (some ⟨rb, 0, none⟩)
  t2 : L 2 = true → v2 = .pointer (some ⟨rb, 0, none⟩)
  t3 : L 3 = true → v3 = .pointer (some ⟨rb, 0, none⟩)
  t4 : L 4 = true → v4 = .pointer (some ⟨rb, 4, none⟩)
  t5 : L 5 = true → v5 = SF
  t6 : L 6 = true → v6 = pf
  t9 : L 9 = true → v9 = .pointer (some ⟨rb, 0, none⟩)
  t10 : L 10 = true → v10 = .pointer (some ⟨rb, 0, none⟩)
  t11 : L 11 = true → v11 = .pointer (some ⟨rb, 5, none⟩)
  t12 : L 12 = true → v12 = SM
  t13 : L 13 = true → v13 = pm
  t16 : L 16 = true → v16 = .pointer (some ⟨rb, 0, none⟩)
  t17 : L 17 = true → v17 = .pointer (some ⟨rb, 4, none⟩)
  t19 : L 19 = true → v18 = .pointer (some ⟨rb, 0, none⟩)
  t20 : L 20 = true → v19 = .pointer (some ⟨rb, 5, none⟩)

section
variable {V0 V : World} {gh : Nat} {sg : Value} {SF SM : Value} {n m : Nat} {xs ys : List Value} {pf pm : Value} {L : Nat → Bool} {v0 v1 v2 v3 v4 v5 v6 v7 v8 v9 v10 v11 v12 v13 v14 v15 v16 v17 v18 v19 : Value}
/-- One more of the operations that touch no memory. -/
theorem GJ.s0 (h : GJ V0 X rb gh sg s SF SM n m xs ys pf pm L v0 v1 v2 v3 v4 v5 v6 v7 v8 v9 v10 v11 v12 v13 v14 v15 v16 v17 v18 v19 V) : GJ V0 X rb gh sg s SF SM n m xs ys pf pm (fun j => j == 0 || L j) (.pointer (some ⟨rb, 0, none⟩)) v1 v2 v3 v4 v5 v6 v7 v8 v9 v10 v11 v12 v13 v14 v15 v16 v17 v18 v19 V :=
  ⟨h.t, h.b, h.rF, h.rF', h.rM, h.rM', h.ne, h.bF, h.bM, h.q8, h.q15, h.q18, h.q21, fun _ => rfl, h.t1, h.t2, h.t3, h.t4, h.t5, h.t6, h.t9, h.t10, h.t11, h.t12, h.t13, h.t16, h.t17, h.t19, h.t20⟩
theorem GJ.s1 (h : GJ V0 X rb gh sg s SF SM n m xs ys pf pm L v0 v1 v2 v3 v4 v5 v6 v7 v8 v9 v10 v11 v12 v13 v14 v15 v16 v17 v18 v19 V) : GJ V0 X rb gh sg s SF SM n m xs ys pf pm (fun j => j == 1 || L j) v0 (.pointer (some ⟨rb, 0, none⟩)) v2 v3 v4 v5 v6 v7 v8 v9 v10 v11 v12 v13 v14 v15 v16 v17 v18 v19 V :=
  ⟨h.t, h.b, h.rF, h.rF', h.rM, h.rM', h.ne, h.bF, h.bM, h.q8, h.q15, h.q18, h.q21, h.t0, fun _ => rfl, h.t2, h.t3, h.t4, h.t5, h.t6, h.t9, h.t10, h.t11, h.t12, h.t13, h.t16, h.t17, h.t19, h.t20⟩
theorem GJ.s2 (h : GJ V0 X rb gh sg s SF SM n m xs ys pf pm L v0 v1 v2 v3 v4 v5 v6 v7 v8 v9 v10 v11 v12 v13 v14 v15 v16 v17 v18 v19 V) : GJ V0 X rb gh sg s SF SM n m xs ys pf pm (fun j => j == 2 || L j) v0 v1 (.pointer (some ⟨rb, 0, none⟩)) v3 v4 v5 v6 v7 v8 v9 v10 v11 v12 v13 v14 v15 v16 v17 v18 v19 V :=
  ⟨h.t, h.b, h.rF, h.rF', h.rM, h.rM', h.ne, h.bF, h.bM, h.q8, h.q15, h.q18, h.q21, h.t0, h.t1, fun _ => rfl, h.t3, h.t4, h.t5, h.t6, h.t9, h.t10, h.t11, h.t12, h.t13, h.t16, h.t17, h.t19, h.t20⟩
theorem GJ.s3 (h : GJ V0 X rb gh sg s SF SM n m xs ys pf pm L v0 v1 v2 v3 v4 v5 v6 v7 v8 v9 v10 v11 v12 v13 v14 v15 v16 v17 v18 v19 V) : GJ V0 X rb gh sg s SF SM n m xs ys pf pm (fun j => j == 3 || L j) v0 v1 v2 (.pointer (some ⟨rb, 0, none⟩)) v4 v5 v6 v7 v8 v9 v10 v11 v12 v13 v14 v15 v16 v17 v18 v19 V :=
  ⟨h.t, h.b, h.rF, h.rF', h.rM, h.rM', h.ne, h.bF, h.bM, h.q8, h.q15, h.q18, h.q21, h.t0, h.t1, h.t2, fun _ => rfl, h.t4, h.t5, h.t6, h.t9, h.t10, h.t11, h.t12, h.t13, h.t16, h.t17, h.t19, h.t20⟩
theorem GJ.s4 (h : GJ V0 X rb gh sg s SF SM n m xs ys pf pm L v0 v1 v2 v3 v4 v5 v6 v7 v8 v9 v10 v11 v12 v13 v14 v15 v16 v17 v18 v19 V) : GJ V0 X rb gh sg s SF SM n m xs ys pf pm (fun j => j == 4 || L j) v0 v1 v2 v3 (.pointer (some ⟨rb, 4, none⟩)) v5 v6 v7 v8 v9 v10 v11 v12 v13 v14 v15 v16 v17 v18 v19 V :=
  ⟨h.t, h.b, h.rF, h.rF', h.rM, h.rM', h.ne, h.bF, h.bM, h.q8, h.q15, h.q18, h.q21, h.t0, h.t1, h.t2, h.t3, fun _ => rfl, h.t5, h.t6, h.t9, h.t10, h.t11, h.t12, h.t13, h.t16, h.t17, h.t19, h.t20⟩
theorem GJ.s5 (h : GJ V0 X rb gh sg s SF SM n m xs ys pf pm L v0 v1 v2 v3 v4 v5 v6 v7 v8 v9 v10 v11 v12 v13 v14 v15 v16 v17 v18 v19 V) : GJ V0 X rb gh sg s SF SM n m xs ys pf pm (fun j => j == 5 || L j) v0 v1 v2 v3 v4 SF v6 v7 v8 v9 v10 v11 v12 v13 v14 v15 v16 v17 v18 v19 V :=
  ⟨h.t, h.b, h.rF, h.rF', h.rM, h.rM', h.ne, h.bF, h.bM, fun _ => rfl, h.q15, h.q18, h.q21, h.t0, h.t1, h.t2, h.t3, h.t4, fun _ => rfl, h.t6, h.t9, h.t10, h.t11, h.t12, h.t13, h.t16, h.t17, h.t19, h.t20⟩
theorem GJ.s6 (h : GJ V0 X rb gh sg s SF SM n m xs ys pf pm L v0 v1 v2 v3 v4 v5 v6 v7 v8 v9 v10 v11 v12 v13 v14 v15 v16 v17 v18 v19 V) : GJ V0 X rb gh sg s SF SM n m xs ys pf pm (fun j => j == 6 || L j) v0 v1 v2 v3 v4 v5 pf v7 v8 v9 v10 v11 v12 v13 v14 v15 v16 v17 v18 v19 V :=
  ⟨h.t, h.b, h.rF, h.rF', h.rM, h.rM', h.ne, h.bF, h.bM, h.q8, h.q15, h.q18, h.q21, h.t0, h.t1, h.t2, h.t3, h.t4, h.t5, fun _ => rfl, h.t9, h.t10, h.t11, h.t12, h.t13, h.t16, h.t17, h.t19, h.t20⟩
theorem GJ.s9 (h : GJ V0 X rb gh sg s SF SM n m xs ys pf pm L v0 v1 v2 v3 v4 v5 v6 v7 v8 v9 v10 v11 v12 v13 v14 v15 v16 v17 v18 v19 V) : GJ V0 X rb gh sg s SF SM n m xs ys pf pm (fun j => j == 9 || L j) v0 v1 v2 v3 v4 v5 v6 v7 v8 (.pointer (some ⟨rb, 0, none⟩)) v10 v11 v12 v13 v14 v15 v16 v17 v18 v19 V :=
  ⟨h.t, h.b, h.rF, h.rF', h.rM, h.rM', h.ne, h.bF, h.bM, h.q8, h.q15, h.q18, h.q21, h.t0, h.t1, h.t2, h.t3, h.t4, h.t5, h.t6, fun _ => rfl, h.t10, h.t11, h.t12, h.t13, h.t16, h.t17, h.t19, h.t20⟩
theorem GJ.s10 (h : GJ V0 X rb gh sg s SF SM n m xs ys pf pm L v0 v1 v2 v3 v4 v5 v6 v7 v8 v9 v10 v11 v12 v13 v14 v15 v16 v17 v18 v19 V) : GJ V0 X rb gh sg s SF SM n m xs ys pf pm (fun j => j == 10 || L j) v0 v1 v2 v3 v4 v5 v6 v7 v8 v9 (.pointer (some ⟨rb, 0, none⟩)) v11 v12 v13 v14 v15 v16 v17 v18 v19 V :=
  ⟨h.t, h.b, h.rF, h.rF', h.rM, h.rM', h.ne, h.bF, h.bM, h.q8, h.q15, h.q18, h.q21, h.t0, h.t1, h.t2, h.t3, h.t4, h.t5, h.t6, h.t9, fun _ => rfl, h.t11, h.t12, h.t13, h.t16, h.t17, h.t19, h.t20⟩
theorem GJ.s11 (h : GJ V0 X rb gh sg s SF SM n m xs ys pf pm L v0 v1 v2 v3 v4 v5 v6 v7 v8 v9 v10 v11 v12 v13 v14 v15 v16 v17 v18 v19 V) : GJ V0 X rb gh sg s SF SM n m xs ys pf pm (fun j => j == 11 || L j) v0 v1 v2 v3 v4 v5 v6 v7 v8 v9 v10 (.pointer (some ⟨rb, 5, none⟩)) v12 v13 v14 v15 v16 v17 v18 v19 V :=
  ⟨h.t, h.b, h.rF, h.rF', h.rM, h.rM', h.ne, h.bF, h.bM, h.q8, h.q15, h.q18, h.q21, h.t0, h.t1, h.t2, h.t3, h.t4, h.t5, h.t6, h.t9, h.t10, fun _ => rfl, h.t12, h.t13, h.t16, h.t17, h.t19, h.t20⟩
theorem GJ.s12 (h : GJ V0 X rb gh sg s SF SM n m xs ys pf pm L v0 v1 v2 v3 v4 v5 v6 v7 v8 v9 v10 v11 v12 v13 v14 v15 v16 v17 v18 v19 V) : GJ V0 X rb gh sg s SF SM n m xs ys pf pm (fun j => j == 12 || L j) v0 v1 v2 v3 v4 v5 v6 v7 v8 v9 v10 v11 SM v13 v14 v15 v16 v17 v18 v19 V :=
  ⟨h.t, h.b, h.rF, h.rF', h.rM, h.rM', h.ne, h.bF, h.bM, h.q8, fun _ => rfl, h.q18, h.q21, h.t0, h.t1, h.t2, h.t3, h.t4, h.t5, h.t6, h.t9, h.t10, h.t11, fun _ => rfl, h.t13, h.t16, h.t17, h.t19, h.t20⟩
theorem GJ.s13 (h : GJ V0 X rb gh sg s SF SM n m xs ys pf pm L v0 v1 v2 v3 v4 v5 v6 v7 v8 v9 v10 v11 v12 v13 v14 v15 v16 v17 v18 v19 V) : GJ V0 X rb gh sg s SF SM n m xs ys pf pm (fun j => j == 13 || L j) v0 v1 v2 v3 v4 v5 v6 v7 v8 v9 v10 v11 v12 pm v14 v15 v16 v17 v18 v19 V :=
  ⟨h.t, h.b, h.rF, h.rF', h.rM, h.rM', h.ne, h.bF, h.bM, h.q8, h.q15, h.q18, h.q21, h.t0, h.t1, h.t2, h.t3, h.t4, h.t5, h.t6, h.t9, h.t10, h.t11, h.t12, fun _ => rfl, h.t16, h.t17, h.t19, h.t20⟩
theorem GJ.s16 (h : GJ V0 X rb gh sg s SF SM n m xs ys pf pm L v0 v1 v2 v3 v4 v5 v6 v7 v8 v9 v10 v11 v12 v13 v14 v15 v16 v17 v18 v19 V) : GJ V0 X rb gh sg s SF SM n m xs ys pf pm (fun j => j == 16 || L j) v0 v1 v2 v3 v4 v5 v6 v7 v8 v9 v10 v11 v12 v13 v14 v15 (.pointer (some ⟨rb, 0, none⟩)) v17 v18 v19 V :=
  ⟨h.t, h.b, h.rF, h.rF', h.rM, h.rM', h.ne, h.bF, h.bM, h.q8, h.q15, h.q18, h.q21, h.t0, h.t1, h.t2, h.t3, h.t4, h.t5, h.t6, h.t9, h.t10, h.t11, h.t12, h.t13, fun _ => rfl, h.t17, h.t19, h.t20⟩
theorem GJ.s17 (h : GJ V0 X rb gh sg s SF SM n m xs ys pf pm L v0 v1 v2 v3 v4 v5 v6 v7 v8 v9 v10 v11 v12 v13 v14 v15 v16 v17 v18 v19 V) : GJ V0 X rb gh sg s SF SM n m xs ys pf pm (fun j => j == 17 || L j) v0 v1 v2 v3 v4 v5 v6 v7 v8 v9 v10 v11 v12 v13 v14 v15 v16 (.pointer (some ⟨rb, 4, none⟩)) v18 v19 V :=
  ⟨h.t, h.b, h.rF, h.rF', h.rM, h.rM', h.ne, h.bF, h.bM, h.q8, h.q15, h.q18, h.q21, h.t0, h.t1, h.t2, h.t3, h.t4, h.t5, h.t6, h.t9, h.t10, h.t11, h.t12, h.t13, h.t16, fun _ => rfl, h.t19, h.t20⟩
theorem GJ.s19 (h : GJ V0 X rb gh sg s SF SM n m xs ys pf pm L v0 v1 v2 v3 v4 v5 v6 v7 v8 v9 v10 v11 v12 v13 v14 v15 v16 v17 v18 v19 V) : GJ V0 X rb gh sg s SF SM n m xs ys pf pm (fun j => j == 19 || L j) v0 v1 v2 v3 v4 v5 v6 v7 v8 v9 v10 v11 v12 v13 v14 v15 v16 v17 (.pointer (some ⟨rb, 0, none⟩)) v19 V :=
  ⟨h.t, h.b, h.rF, h.rF', h.rM, h.rM', h.ne, h.bF, h.bM, h.q8, h.q15, h.q18, h.q21, h.t0, h.t1, h.t2, h.t3, h.t4, h.t5, h.t6, h.t9, h.t10, h.t11, h.t12, h.t13, h.t16, h.t17, fun _ => rfl, h.t20⟩
theorem GJ.s20 (h : GJ V0 X rb gh sg s SF SM n m xs ys pf pm L v0 v1 v2 v3 v4 v5 v6 v7 v8 v9 v10 v11 v12 v13 v14 v15 v16 v17 v18 v19 V) : GJ V0 X rb gh sg s SF SM n m xs ys pf pm (fun j => j == 20 || L j) v0 v1 v2 v3 v4 v5 v6 v7 v8 v9 v10 v11 v12 v13 v14 v15 v16 v17 v18 (.pointer (some ⟨rb, 5, none⟩)) V :=
  ⟨h.t, h.b, h.rF, h.rF', h.rM, h.rM', h.ne, h.bF, h.bM, h.q8, h.q15, h.q18, h.q21, h.t0, h.t1, h.t2, h.t3, h.t4, h.t5, h.t6, h.t9, h.t10, h.t11, h.t12, h.t13, h.t16, h.t17, h.t19, fun _ => rfl⟩

theorem ownBlock_nat {v : Value} {b b' : Nat} (h : v.ownBlock = some b) (h' : v.ownBlock = some b') : b = b' := by rw [h] at h'; exact Option.some.inj h'
/-- New cells. -/
theorem GJ.carry (h : GJ V0 X rb gh sg s SF SM n m xs ys pf pm L v0 v1 v2 v3 v4 v5 v6 v7 v8 v9 v10 v11 v12 v13 v14 v15 v16 v17 v18 v19 V) {V' : World} (hb : Below V.heap.size V V') : GJ V0 X rb gh sg s SF SM n m xs ys pf pm L v0 v1 v2 v3 v4 v5 v6 v7 v8 v9 v10 v11 v12 v13 v14 v15 v16 v17 v18 v19 V' := by
  have hF : ∀ {v : Value} {e k : Nat} {zs : List Value}, V.ownsRow (rb + 1) e 1 v k zs → V'.ownsRow (rb + 1) e 1 v k zs := fun hr => (Touch.of_below hb (Nat.le_refl _) (fun _ => False)).row hr (fun _ _ _ _ e => e)
  refine { h with t := h.t.trans (Touch.of_below hb (Nat.le_refl _) _), b := ?_, rF := fun e => hF (h.rF e), rF' := fun e => ⟨hF (h.rF' e).1, (h.rF' e).2⟩, rM := fun e => hF (h.rM e), rM' := fun e => ⟨hF (h.rM' e).1, (h.rM' e).2⟩, bF := ?_, bM := ?_ }
  · obtain ⟨c4, c5, b, r⟩ := h.b
    exact ⟨c4, c5, b.below hb, r⟩
  · intro e1 e2
    obtain ⟨b, e, k, r⟩ := h.bF e1 e2
    exact ⟨b, e, k.below hb, r⟩
  · intro e1 e2
    obtain ⟨b, e, k, r⟩ := h.bM e1 e2
    exact ⟨b, e, k.below hb, r⟩

theorem GJ.ltF (h : GJ V0 X rb gh sg s SF SM n m xs ys pf pm L v0 v1 v2 v3 v4 v5 v6 v7 v8 v9 v10 v11 v12 v13 v14 v15 v16 v17 v18 v19 V) : ∀ b, (if L 8 = true then v8 else SF).ownBlock = some b → rb < b ∧ b < V.heap.size := by
  intro b hb
  split at hb
  · rename_i e
    have := (h.rF' e).1.lt b hb
    omega
  · rename_i e
    have := (h.rF (by simpa using e)).lt b hb
    omega
theorem GJ.ltM (h : GJ V0 X rb gh sg s SF SM n m xs ys pf pm L v0 v1 v2 v3 v4 v5 v6 v7 v8 v9 v10 v11 v12 v13 v14 v15 v16 v17 v18 v19 V) : ∀ b, (if L 15 = true then v15 else SM).ownBlock = some b → rb < b ∧ b < V.heap.size := by
  intro b hb
  split at hb
  · rename_i e
    have := (h.rM' e).1.lt b hb
    omega
  · rename_i e
    have := (h.rM (by simpa using e)).lt b hb
    omega

theorem GJ.s7 (h : GJ V0 X rb gh sg s SF SM n m xs ys pf pm L v0 v1 v2 v3 v4 v5 v6 v7 v8 v9 v10 v11 v12 v13 v14 v15 v16 v17 v18 v19 V) (hl : V0.heap.size ≤ V.heap.size) (ty : TypeId) : GJ V0 X rb gh sg s SF SM n m xs ys pf pm (fun j => j == 7 || L j) v0 v1 v2 v3 v4 v5 v6 (.slice (some ⟨V.heap.size, 0, none⟩) 1 1) v8 v9 v10 v11 v12 v13 v14 v15 v16 v17 v18 v19 (V.alloc (.cells #[pf] ty)) := by
  have h1 := h.carry ((Below.refl _ _).alloc (Nat.le_refl _) (.cells #[pf] ty))
  have hm := h.ltM
  have h := h1
  exact ⟨h.t, h.b, h.rF, h.rF', h.rM, h.rM', h.ne, fun _ _ => ⟨_, rfl, Blk.new V #[pf] ty, hl, fun e => by have := (hm _ e).2; omega⟩, h.bM, h.q8, h.q15, h.q18, h.q21, h.t0, h.t1, h.t2, h.t3, h.t4, h.t5, h.t6, h.t9, h.t10, h.t11, h.t12, h.t13, h.t16, h.t17, h.t19, h.t20⟩
theorem GJ.s14 (h : GJ V0 X rb gh sg s SF SM n m xs ys pf pm L v0 v1 v2 v3 v4 v5 v6 v7 v8 v9 v10 v11 v12 v13 v14 v15 v16 v17 v18 v19 V) (hl : V0.heap.size ≤ V.heap.size) (ty : TypeId) : GJ V0 X rb gh sg s SF SM n m xs ys pf pm (fun j => j == 14 || L j) v0 v1 v2 v3 v4 v5 v6 v7 v8 v9 v10 v11 v12 v13 (.slice (some ⟨V.heap.size, 0, none⟩) 1 1) v15 v16 v17 v18 v19 (V.alloc (.cells #[pm] ty)) := by
  have h1 := h.carry ((Below.refl _ _).alloc (Nat.le_refl _) (.cells #[pm] ty))
  have hm := h.ltF
  have h := h1
  exact ⟨h.t, h.b, h.rF, h.rF', h.rM, h.rM', h.ne, h.bF, fun _ _ => ⟨_, rfl, Blk.new V #[pm] ty, hl, fun e => by have := (hm _ e).2; omega⟩, h.q8, h.q15, h.q18, h.q21, h.t0, h.t1, h.t2, h.t3, h.t4, h.t5, h.t6, h.t9, h.t10, h.t11, h.t12, h.t13, h.t16, h.t17, h.t19, h.t20⟩

theorem GJ.s8 (h : GJ V0 X rb gh sg s SF SM n m xs ys pf pm L v0 v1 v2 v3 v4 v5 v6 v7 v8 v9 v10 v11 v12 v13 v14 v15 v16 v17 v18 v19 V) (e5 : L 5 = true) (e8 : L 8 = false) {v' : Value} {V' : World} (ho : V'.ownsRow (rb + 1) 66 1 v' (n + 1) (xs ++ [pf])) (hg : V.grownBy V' SF.ownBlock) (hor : v'.ownBlock = SF.ownBlock ∨ v'.ownBlock = some V.heap.size) :
    GJ V0 X rb gh sg s SF SM n m xs ys pf pm (fun j => j == 8 || L j) v0 v1 v2 v3 v4 v5 v6 v7 v' v9 v10 v11 v12 v13 v14 v15 v16 v17 v18 v19 V' := by
  have e18 : L 18 = false := by cases e : L 18 with | false => rfl | true => rw [h.q18 e] at e8; cases e8
  have hsz := h.t.size
  have hrb : SF.ownBlock ≠ some rb := fun e => by have := (h.ltF rb (by rw [e8]; exact e)).1; omega
  have hkeep : ∀ {b : Nat} {zs : List Value}, Blk V b zs → SF.ownBlock ≠ some b → Blk V' b zs := fun {b zs} hb hne => hb.touch ((Touch.refl (fun k => SF.ownBlock = some k) V).grown hg (fun k e _ => e)) hne
  have hM : ∀ {v : Value} {k : Nat} {zs : List Value}, V.ownsRow (rb + 1) 3 1 v k zs → (∀ b, v.ownBlock = some b → SF.ownBlock ≠ some b) → V'.ownsRow (rb + 1) 3 1 v k zs := fun {v k zs} hr hne => hr.kept hg (by
    cases e : v.ownBlock with
    | none => exact .inl rfl
    | some b => exact .inr (fun e2 => hne b e e2.symm))
  have hcur : ∀ b, v'.ownBlock = some b → (if L 15 = true then v15 else SM).ownBlock ≠ some b := by
    intro b hb e
    rcases hor with e2 | e2
    · rw [e2] at hb
      exact h.ne b (by rw [e8]; exact hb) e
    · rw [e2] at hb
      obtain rfl := Option.some.inj hb
      have := (h.ltM _ e).2
      omega
  refine { h with t := ?_, b := ?_, rF := fun e => absurd e (by simp), rF' := fun _ => ⟨ho, ?_⟩, rM := fun e => ?_, rM' := fun e => ⟨?_, (h.rM' e).2⟩, ne := ?_, bF := fun _ e => absurd e (by simp), bM := ?_, q8 := fun _ => e5, q18 := fun _ => rfl }
  · exact h.t.grown hg (fun k e hk => .inr (.inl e))
  · obtain ⟨c4, c5, b, r1, r2, r3, r4⟩ := h.b
    refine ⟨c4, c5, hkeep b hrb, r1, fun e => ?_, r3, r4⟩
    have e : L 18 = true := e
    rw [e18] at e
    cases e
  · rcases hor with e | e
    · exact .inl e
    · exact .inr ⟨_, e, hsz⟩
  · refine hM (h.rM e) (fun b hb e2 => h.ne b (by rw [e8]; exact e2) ?_)
    have e : L 15 = false := e
    rw [e]
    exact hb
  · refine hM (h.rM' e).1 (fun b hb e2 => h.ne b (by rw [e8]; exact e2) ?_)
    have e : L 15 = true := e
    rw [if_pos e]
    exact hb
  · intro b hb
    exact hcur b hb
  · intro e14 e15
    obtain ⟨b, e, k, hl, r⟩ := h.bM e14 e15
    rw [e8] at r
    have r : SF.ownBlock ≠ some b := r
    refine ⟨b, e, hkeep k r, hl, ?_⟩
    show v'.ownBlock ≠ some b
    rcases hor with e2 | e2
    · rw [e2]; exact r
    · rw [e2]
      intro e3
      have := Option.some.inj e3
      have := k.l
      omega
theorem GJ.s15 (h : GJ V0 X rb gh sg s SF SM n m xs ys pf pm L v0 v1 v2 v3 v4 v5 v6 v7 v8 v9 v10 v11 v12 v13 v14 v15 v16 v17 v18 v19 V) (e5 : L 12 = true) (e8 : L 15 = false) {v' : Value} {V' : World} (ho : V'.ownsRow (rb + 1) 3 1 v' (m + 1) (ys ++ [pm])) (hg : V.grownBy V' SM.ownBlock) (hor : v'.ownBlock = SM.ownBlock ∨ v'.ownBlock = some V.heap.size) :
    GJ V0 X rb gh sg s SF SM n m xs ys pf pm (fun j => j == 15 || L j) v0 v1 v2 v3 v4 v5 v6 v7 v8 v9 v10 v11 v12 v13 v14 v' v16 v17 v18 v19 V' := by
  have e18 : L 21 = false := by cases e : L 21 with | false => rfl | true => rw [h.q21 e] at e8; cases e8
  have hsz := h.t.size
  have hrb : SM.ownBlock ≠ some rb := fun e => by have := (h.ltM rb (by rw [e8]; exact e)).1; omega
  have hkeep : ∀ {b : Nat} {zs : List Value}, Blk V b zs → SM.ownBlock ≠ some b → Blk V' b zs := fun {b zs} hb hne => hb.touch ((Touch.refl (fun k => SM.ownBlock = some k) V).grown hg (fun k e _ => e)) hne
  have hM : ∀ {v : Value} {k : Nat} {zs : List Value}, V.ownsRow (rb + 1) 66 1 v k zs → (∀ b, v.ownBlock = some b → SM.ownBlock ≠ some b) → V'.ownsRow (rb + 1) 66 1 v k zs := fun {v k zs} hr hne => hr.kept hg (by
    cases e : v.ownBlock with
    | none => exact .inl rfl
    | some b => exact .inr (fun e2 => hne b e e2.symm))
  have hcur : ∀ b, (if L 8 = true then v8 else SF).ownBlock = some b → v'.ownBlock ≠ some b := by
    intro b hb e
    rcases hor with e2 | e2
    · rw [e2] at e
      exact h.ne b hb (by rw [e8]; exact e)
    · rw [e2] at e
      obtain rfl := Option.some.inj e
      have := (h.ltF _ hb).2
      omega
  refine { h with t := ?_, b := ?_, rM := fun e => absurd e (by simp), rM' := fun _ => ⟨ho, ?_⟩, rF := fun e => ?_, rF' := fun e => ⟨?_, (h.rF' e).2⟩, ne := ?_, bM := fun _ e => absurd e (by simp), bF := ?_, q15 := fun _ => e5, q21 := fun _ => rfl }
  · exact h.t.grown hg (fun k e hk => .inr (.inr e))
  · obtain ⟨c4, c5, b, r1, r2, r3, r4⟩ := h.b
    refine ⟨c4, c5, hkeep b hrb, r1, r2, r3, fun e => ?_⟩
    have e : L 21 = true := e
    rw [e18] at e
    cases e
  · refine hM (h.rF e) (fun b hb e2 => h.ne b ?_ (by rw [e8]; exact e2))
    have e : L 8 = false := e
    rw [e]
    exact hb
  · refine hM (h.rF' e).1 (fun b hb e2 => h.ne b ?_ (by rw [e8]; exact e2))
    have e : L 8 = true := e
    rw [if_pos e]
    exact hb
  · rcases hor with e | e
    · exact .inl e
    · exact .inr ⟨_, e, hsz⟩
  · intro b hb
    exact hcur b hb
  · intro e14 e15
    obtain ⟨b, e, k, hl, r⟩ := h.bF e14 e15
    rw [e8] at r
    have r : SM.ownBlock ≠ some b := r
    refine ⟨b, e, hkeep k r, hl, ?_⟩
    show v'.ownBlock ≠ some b
    rcases hor with e2 | e2
    · rw [e2]; exact r
    · rw [e2]
      intro e3
      have := Option.some.inj e3
      have := k.l
      omega
theorem GJ.rbne (h : GJ V0 X rb gh sg s SF SM n m xs ys pf pm L v0 v1 v2 v3 v4 v5 v6 v7 v8 v9 v10 v11 v12 v13 v14 v15 v16 v17 v18 v19 V) (hrb : rb < V0.heap.size) : (∀ b, L 7 = true → L 8 = false → v7 = .slice (some ⟨b, 0, none⟩) 1 1 → b ≠ rb) := by
  intro b e1 e2 e3
  obtain ⟨b', e, k, hl, r⟩ := h.bF e1 e2
  rw [e3] at e
  injection e with e
  injection e with e
  injection e with e
  omega
theorem GJ.sets (h : GJ V0 X rb gh sg s SF SM n m xs ys pf pm L v0 v1 v2 v3 v4 v5 v6 v7 v8 v9 v10 v11 v12 v13 v14 v15 v16 v17 v18 v19 V) (hrb : rb < V0.heap.size) (j : Nat) (u : Value) : Touch (fun b => b = rb ∨ SF.ownBlock = some b ∨ SM.ownBlock = some b) V0 (V.setCell ⟨rb, j, none⟩ u) ∧ (∀ {b : Nat} {zs : List Value}, Blk V b zs → V0.heap.size ≤ b → Blk (V.setCell ⟨rb, j, none⟩ u) b zs) ∧
    (∀ {v : Value} {e k : Nat} {zs : List Value}, V.ownsRow (rb + 1) e 1 v k zs → (V.setCell ⟨rb, j, none⟩ u).ownsRow (rb + 1) e 1 v k zs) := by
  refine ⟨h.t.setCell _ _ (fun _ => .inl rfl), fun {b zs} hb hl => hb.other (by omega) j u, fun {v e k zs} hr => ?_⟩
  exact ((Touch.refl (fun b => b = rb) V).setCell _ _ (fun _ => rfl)).row hr (fun g o c e e2 => by
    have := hr.lt g (by rw [e]; rfl)
    have e2 : g = rb := e2
    omega)
theorem GJ.s18 (h : GJ V0 X rb gh sg s SF SM n m xs ys pf pm L v0 v1 v2 v3 v4 v5 v6 v7 v8 v9 v10 v11 v12 v13 v14 v15 v16 v17 v18 v19 V) (hrb : rb < V0.heap.size) (e8 : L 8 = true) : GJ V0 X rb gh sg s SF SM n m xs ys pf pm (fun j => j == 18 || L j) v0 v1 v2 v3 v4 v5 v6 v7 v8 v9 v10 v11 v12 v13 v14 v15 v16 v17 v18 v19 (V.setCell ⟨rb, 4, none⟩ v8) := by
  obtain ⟨k1, k2, k3⟩ := h.sets hrb 4 v8
  refine { h with t := k1, b := ?_, rF := fun e => k3 (h.rF e), rF' := fun e => ⟨k3 (h.rF' e).1, (h.rF' e).2⟩, rM := fun e => k3 (h.rM e), rM' := fun e => ⟨k3 (h.rM' e).1, (h.rM' e).2⟩, bF := ?_, bM := ?_, q18 := fun _ => e8 }
  · obtain ⟨c4, c5, b, r1, r2, r3, r4⟩ := h.b
    exact ⟨v8, c5, b.set (j := 4) rfl v8, fun e => absurd e (by simp), fun _ => rfl, r3, r4⟩
  · intro e1 e2
    obtain ⟨b, e, k, hl, r⟩ := h.bF e1 e2
    exact ⟨b, e, k2 k hl, hl, r⟩
  · intro e1 e2
    obtain ⟨b, e, k, hl, r⟩ := h.bM e1 e2
    exact ⟨b, e, k2 k hl, hl, r⟩
theorem GJ.s21 (h : GJ V0 X rb gh sg s SF SM n m xs ys pf pm L v0 v1 v2 v3 v4 v5 v6 v7 v8 v9 v10 v11 v12 v13 v14 v15 v16 v17 v18 v19 V) (hrb : rb < V0.heap.size) (e8 : L 15 = true) : GJ V0 X rb gh sg s SF SM n m xs ys pf pm (fun j => j == 21 || L j) v0 v1 v2 v3 v4 v5 v6 v7 v8 v9 v10 v11 v12 v13 v14 v15 v16 v17 v18 v19 (V.setCell ⟨rb, 5, none⟩ v15) := by
  obtain ⟨k1, k2, k3⟩ := h.sets hrb 5 v15
  refine { h with t := k1, b := ?_, rF := fun e => k3 (h.rF e), rF' := fun e => ⟨k3 (h.rF' e).1, (h.rF' e).2⟩, rM := fun e => k3 (h.rM e), rM' := fun e => ⟨k3 (h.rM' e).1, (h.rM' e).2⟩, bF := ?_, bM := ?_, q21 := fun _ => e8 }
  · obtain ⟨c4, c5, b, r1, r2, r3, r4⟩ := h.b
    exact ⟨c4, v15, b.set (j := 5) rfl v15, r1, r2, fun e => absurd e (by simp), fun _ => rfl⟩
  · intro e1 e2
    obtain ⟨b, e, k, hl, r⟩ := h.bF e1 e2
    exact ⟨b, e, k2 k hl, hl, r⟩
  · intro e1 e2
    obtain ⟨b, e, k, hl, r⟩ := h.bM e1 e2
    exact ⟨b, e, k2 k hl, hl, r⟩
end
end
#print axioms GJ
#print axioms GJ
#print axioms GJ
end Go.Proofs.Ytkhgpeejmbfmjaa
/- The run in memory: a frame is laid on top; arguments taken off the stack. -/
namespace Go.Proofs.Ytkhgpeejmbfmjaa
open Go.RowKit
set_option linter.unusedSimpArgs false
set_option linter.unusedVariables false
set_option maxRecDepth 100000
section
variable {w0 W : World} {X : Sx} {rb : Nat} {fgs : List Nat} {c : Nat} {s : Mc} {K : Nat → Prop} {fg : Nat}

/-- A frame is laid on top. -/
theorem RunIn.grow {V0 V : World} {own : Nat → Nat} {Af : Option Addr} {cf : Nat} {Am : Option Addr} {cm gh gw : Nat} {Ag : Option Addr} {cg : Nat} (h : RunIn w0 V0 X rb fgs c s K own Af cf Am cm gh gw Ag cg) {F : Fr} {fg2 B1 B2 i : Nat} {K0 : Nat → Prop}
    (hF : FO w0 V0 fg2 0 F (fun b => b < V0.heap.size ∧ ¬ (B1 ≤ b ∧ b < B2))) (hP : ∀ b, B1 ≤ b → b < B2 → own b = 0) (hB1 : w0.heap.size ≤ B1) (hB2 : B2 ≤ V0.heap.size) (hK : ∀ b, K0 b → K b ∧ ¬ (B1 ≤ b ∧ b < B2))
    (hfl : s.frs.length ≤ 256) (hi : i < X.m.mts.length) (t : Touch (fun b => b = rb ∨ (Value.slice Af fgs.length cf).ownBlock = some b ∨ (Value.slice Am s.ms.length cm).ownBlock = some b) V0 V)
    {vF vM : Value} (hb : Blk V rb (rcells X vF vM gh (.slice Ag s.gl.length cg) s))
    (rF : V.ownsRow (rb + 1) 66 1 vF (fgs.length + 1) (ptrs fgs ++ [.pointer (some ⟨fg2, 0, none⟩)])) (oF : vF.ownBlock = (Value.slice Af fgs.length cf).ownBlock ∨ ∃ b, vF.ownBlock = some b ∧ V0.heap.size ≤ b)
    (rM : V.ownsRow (rb + 1) 3 1 vM (s.ms.length + 1) (ints s.ms ++ [.int .i64 (i : Nat)])) (oM : vM.ownBlock = (Value.slice Am s.ms.length cm).ownBlock ∨ ∃ b, vM.ownBlock = some b ∧ V0.heap.size ≤ b)
    (ne : ∀ b, vF.ownBlock = some b → vM.ownBlock ≠ some b) :
    RunK w0 V0 X rb (fgs ++ [fg2]) c { s with frs := s.frs ++ [F], ms := s.ms ++ [i] } K0 V := by
  have hsl : ∀ {e n : Nat} {v : Value} {zs : List Value}, V.ownsRow (rb + 1) e 1 v (n + 1) zs → ∃ g cap, v = .slice (some ⟨g, 0, none⟩) (n + 1) cap ∧ rb < g := by
    intro e n v zs hr
    rcases hr.2 with ⟨-, e2⟩ | ⟨g, cap, cur, e, hb, -⟩
    · omega
    · exact ⟨g, cap, e, by omega⟩
  obtain ⟨gF, cF, rfl, hgF⟩ := hsl rF
  obtain ⟨gM, cM, rfl, hgM⟩ := hsl rM
  have hne : gF ≠ gM := fun e => ne gF rfl (by rw [e]; rfl)
  have hcur : ∀ {A : Option Addr} {n k g cap : Nat}, ((Value.slice (some ⟨g, 0, none⟩) k cap).ownBlock = (Value.slice A n 0).ownBlock ∨ ∃ b, (Value.slice (some ⟨g, 0, none⟩) k cap).ownBlock = some b ∧ V0.heap.size ≤ b) → (∃ a : Addr, A = some a ∧ a.block = g) ∨ V0.heap.size ≤ g := by
    intro A n k g cap hh
    rcases hh with e | ⟨b, e, hl⟩
    · cases A with
      | none => cases e
      | some a => exact .inl ⟨a, rfl, (Option.some.inj e).symm⟩
    · obtain rfl : g = b := Option.some.inj e
      exact .inr hl
  have oF' : (∃ a : Addr, Af = some a ∧ a.block = gF) ∨ V0.heap.size ≤ gF := hcur (n := 0) (by rcases oF with e | e; exact .inl (e.trans (by cases Af <;> rfl)); exact .inr e)
  have oM' : (∃ a : Addr, Am = some a ∧ a.block = gM) ∨ V0.heap.size ≤ gM := hcur (n := 0) (by rcases oM with e | e; exact .inl (e.trans (by cases Am <;> rfl)); exact .inr e)
  have hS : ∀ b, (b = rb ∨ (Value.slice Af fgs.length cf).ownBlock = some b ∨ (Value.slice Am s.ms.length cm).ownBlock = some b) → own b = 1 := by
    rintro b (e | e | e)
    · rw [e]; exact h.mine.rb
    · cases Af with
      | none => cases e
      | some a => obtain rfl : a.block = b := Option.some.inj e; exact h.mine.af a rfl
    · cases Am with
      | none => cases e
      | some a => obtain rfl : a.block = b := Option.some.inj e; exact h.mine.am a rfl
  obtain ⟨s1, s2, s3, s4, s5, s6, s7⟩ := h.step (k' := 1) t (fun b hb e => ⟨hS b e, h.new (hS b e) (by omega)⟩) 1
  obtain ⟨own3, ho3⟩ : ∃ o : Nat → Nat, o = fun b => if B1 ≤ b ∧ b < B2 then 3 + fgs.length else relab own V0 1 b := ⟨_, rfl⟩
  have o3P : ∀ b, (B1 ≤ b ∧ b < B2) → own3 b = 3 + fgs.length := fun b hb => by rw [ho3]; exact if_pos hb
  have o3N : ∀ b, ¬ (B1 ≤ b ∧ b < B2) → own3 b = relab own V0 1 b := fun b hb => by rw [ho3]; exact if_neg hb
  have rP : ∀ b, (B1 ≤ b ∧ b < B2) → relab own V0 1 b = 0 := fun b hb => by rw [relab_old (by omega)]; exact hP b hb.1 hb.2
  have oth : ∀ j, j ≠ 0 → j ≠ 3 + fgs.length → ∀ b, Oth own3 j V b → Oth (relab own V0 1) j V b := by
    rintro j hj hj2 b ⟨h1, h2⟩
    refine ⟨h1, fun e => ?_⟩
    by_cases hp : B1 ≤ b ∧ b < B2
    · rw [rP b hp] at e; exact hj e.symm
    · rw [o3N b hp] at h2; exact h2 e
  have o1 : ∀ b, relab own V0 1 b = 1 → own3 b = 1 := fun b e => by
    by_cases hp : B1 ≤ b ∧ b < B2
    · rw [rP b hp] at e; cases e
    · rw [o3N b hp]; exact e
  have onew : ∀ g, V0.heap.size ≤ g → relab own V0 1 g = 1 := fun g hg => relab_new (by omega)
  have lenF : (fgs ++ [fg2]).length = fgs.length + 1 := by simp
  have lenM : (s.ms ++ [i]).length = s.ms.length + 1 := by simp
  refine ⟨⟨own3, some ⟨gF, 0, none⟩, cF, some ⟨gM, 0, none⟩, cM, gh, gw, Ag, cg, ⟨?_, ?_, ?_, (s1 (by omega)).less (oth 2 (by omega) (by omega)), ?_, ?_, ?_, ?_, ?_, ?_, s7, h.md, ?_, h.ghe⟩⟩, t.mono (fun b hb e hk => by have := hS b e; have := (h.kk b (hK b hk).1).2; omega)⟩
  · rw [lenF]
    show Blk V rb (rcells X _ (.slice _ (s.ms ++ [i]).length cM) gh _ s)
    rw [lenM]
    exact hb
  · rw [lenF]
    have : ptrs (fgs ++ [fg2]) = ptrs fgs ++ [.pointer (some ⟨fg2, 0, none⟩)] := by unfold ptrs; simp
    rw [this]
    exact rF
  · show V.ownsRow (rb + 1) 3 1 (.slice _ (s.ms ++ [i]).length cM) (s.ms ++ [i]).length (ints (s.ms ++ [i]))
    have : ints (s.ms ++ [i]) = ints s.ms ++ [.int .i64 (i : Nat)] := by unfold ints; simp
    rw [lenM, this]
    exact rM
  · show (fgs ++ [fg2]).length = (s.frs ++ [F]).length
    have := h.frl
    simp [this]
  · intro j hj hj'
    have hj2 : j < fgs.length + 1 := by simpa using hj
    by_cases he : j = fgs.length
    · subst he
      have e5 : (s.frs ++ [F])[fgs.length]'(by simpa using hj') = F := by
        have hq := h.frl
        have : (s.frs ++ [F])[fgs.length]? = some F := by rw [List.getElem?_append_right (by omega), hq, Nat.sub_self]; rfl
        exact getElem_of_opt _ this
      show FO w0 V (fgs ++ [fg2])[fgs.length] c (s.frs ++ [F])[fgs.length] _
      rw [e5, List.getElem_append_right (Nat.le_refl _)]
      simp only [Nat.sub_self, List.getElem_cons_zero]
      have hF2 := (hF.less (K' := Oth (fun b => if B1 ≤ b ∧ b < B2 then 0 else 1) 0 V0) (by
        rintro b ⟨h1, h2⟩
        refine ⟨h1, fun hp => h2 (if_pos hp)⟩)).other t (fun b hb e => ⟨by
          have h1 := hS b e
          have : ¬ (B1 ≤ b ∧ b < B2) := fun hp => by have := hP b hp.1 hp.2; omega
          show (if B1 ≤ b ∧ b < B2 then 0 else 1) ≠ 0
          rw [if_neg this]; decide, h.new (hS b e) (by omega)⟩) 1
      refine (hF2.less ?_).mono (Nat.zero_le _)
      rintro b ⟨h1, h2⟩
      refine ⟨h1, ?_⟩
      have hp : ¬ (B1 ≤ b ∧ b < B2) := fun hp => h2 (o3P b hp)
      by_cases hb0 : b < V0.heap.size
      · rw [relab_old hb0, if_neg hp]; decide
      · rw [relab_new hb0]; decide
    · have hj3 : j < fgs.length := by omega
      have hj4 : j < s.frs.length := by rw [← h.frl]; exact hj3
      have e5 : (s.frs ++ [F])[j]'(by simpa using hj') = s.frs[j] := List.getElem_append_left hj4
      show FO w0 V (fgs ++ [fg2])[j] c (s.frs ++ [F])[j] _
      rw [e5, List.getElem_append_left hj3]
      exact (s2 j hj3 hj4 (by omega)).less (oth (3 + j) (by omega) (by omega))
  · rcases h.gl with e | ⟨gb, g1, g2, g3, g4, g5, g6⟩
    · exact .inl e
    · refine .inr ⟨gb, g1, o1 _ (by rw [relab_old g3.l]; exact g2), g3.touch t ?_, g4, ?_, ?_⟩
      · rintro (e | e | e)
        · exact g4 e
        · cases Af with
          | none => cases e
          | some a => exact g5 a rfl (Option.some.inj e)
        · cases Am with
          | none => cases e
          | some a => exact g6 a rfl (Option.some.inj e)
      · intro a e e2
        obtain rfl := Option.some.inj e
        have e2 : gF = gb := e2
        rcases oF' with ⟨a, e3, e4⟩ | hl
        · exact g5 a e3 (e4.trans e2)
        · have := g3.l; omega
      · intro a e e2
        obtain rfl := Option.some.inj e
        have e2 : gM = gb := e2
        rcases oM' with ⟨a, e3, e4⟩ | hl
        · exact g6 a e3 (e4.trans e2)
        · have := g3.l; omega
  · refine ⟨o1 _ s4.rb, ?_, ?_, ?_⟩
    · intro a e
      obtain rfl := Option.some.inj e
      rcases oF' with ⟨a, e3, e4⟩ | hl
      · rw [← e4]; exact o1 _ (s4.af a e3)
      · exact o1 _ (onew _ hl)
    · intro a e
      obtain rfl := Option.some.inj e
      rcases oM' with ⟨a, e3, e4⟩ | hl
      · rw [← e4]; exact o1 _ (s4.am a e3)
      · exact o1 _ (onew _ hl)
    · intro a b e1 e2
      obtain rfl := Option.some.inj e1
      obtain rfl := Option.some.inj e2
      exact hne
  · intro b hb
    rw [o3N b (by omega)]
    exact s5 b hb
  · intro b hb
    obtain ⟨k1, k2⟩ := hK b hb
    rw [o3N b k2]
    exact s6 b k1
  · have k := h.ok
    refine { k with ml := ?_, mi := ?_, fl := ?_ }
    · show (s.ms ++ [i]).length = (s.frs ++ [F]).length
      simp [k.ml]
    · intro j hj
      rcases List.mem_append.1 hj with hj | hj
      · exact k.mi j hj
      · rw [List.mem_singleton.1 hj]; exact hi
    · show (s.frs ++ [F]).length ≤ 257
      simp; omega
/-! Arguments taken off the stack. -/
theorem take_snoc (s : Mc) (l : List Int) (k : Int) : s.take (l ++ [k]) = ((s.take l).1 ++ [((s.take l).2.pop k).1], ((s.take l).2.pop k).2) := by
  induction l generalizing s with
  | nil => rfl
  | cons a l ih =>
    show ((s.pop a).1 :: ((s.pop a).2.take (l ++ [k])).1, ((s.pop a).2.take (l ++ [k])).2) = _
    rw [ih]
    rfl
theorem pop_ne (hne : s.frs ≠ []) (k : Int) : (s.pop k).2.frs ≠ [] := by
  have := pop_len hne k
  intro e
  rw [e] at this
  exact hne (List.eq_nil_of_length_eq_zero this.symm)
theorem take_len (l : List Int) : ∀ {s : Mc}, s.frs ≠ [] → (s.take l).2.frs.length = s.frs.length := by
  induction l with
  | nil => intro s h; rfl
  | cons a l ih =>
    intro s h
    show ((s.pop a).2.take l).2.frs.length = _
    rw [ih (pop_ne h a), pop_len h a]
theorem take_vlen (l : List Int) : ∀ s : Mc, (s.take l).1.length = l.length := by
  induction l with
  | nil => intro s; rfl
  | cons a l ih =>
    intro s
    show ((s.pop a).2.take l).1.length + 1 = l.length + 1
    rw [ih]
end
#print axioms pop_ne
#print axioms take_len
#print axioms take_vlen
end Go.Proofs.Ytkhgpeejmbfmjaa
/- The run in memory: call, where it comes to nothing. -/
namespace Go.Proofs.Ytkhgpeejmbfmjaa
open Go.RowKit
set_option linter.unusedSimpArgs false
set_option linter.unusedVariables false
set_option maxRecDepth 100000
section
variable {w0 W : World} {X : Sx} {rb : Nat} {fgs : List Nat} {c : Nat} {s : Mc} {K : Nat → Prop} {fg : Nat}

theorem RunAt.md0 (h : RunAt w0 W X rb fgs c s K) : ModAt w0 X := by
  obtain ⟨own, Af, cf, Am, cm, gh, gw, Ag, cg, h⟩ := h
  exact h.md
theorem call_no (h : RunAt w0 W X rb fgs c s K) (hf : Topf fgs fg) (i : Int) (hi : inB i ((X.nm : Int) - 1) = false) : Calls Try.prog 73 #[.pointer (some ⟨rb, 0, none⟩), .pointer (some ⟨fg, 0, none⟩), .int .i64 i] W fun e W' => e = .returned (.tuple #[]) ∧ ∃ fgs', RunK w0 W X rb fgs' c (s.call X.m i) K W' ∧ ∃ fg', Topf fgs' fg' := by
  have e : s.call X.m i = s.cant := by unfold Mc.call; rw [h.md0.ml, hi]; rfl
  rw [e]
  have HIN : Hid (∀ V, Calls Try.prog 17 #[.int .i64 i, .int .i64 ((X.nm : Int) - 1)] V fun e V' => e = .returned (.bool false) ∧ V' = V) := Lib.hid (fun V => by rw [← hi]; exact in_any _ _ _)
  have HC := Lib.hid (cant_at h)
  have c2 := h.c2
  have rl := h.rbl
  have HF := Lib.hid hf
  have hnm := h.md0.nm
  have wn : IntKind.i64.wrap ((X.nm : Int) - 1) = (X.nm : Int) - 1 := IntWalk.i64_in _ (by omega)
  have HR := Lib.hid h.rk0
  clear h hf e hi
  go_enter Try.func73, Try.ntmps73
  go_wp2_with fail
  refine (HIN.out _).mono ?_
  rintro e w2 ⟨rfl, rfl⟩
  go_wp2_with fail
  refine HC.out.mono ?_
  rintro e w3 ⟨rfl, hR⟩
  have HB := Lib.hid (HR.out.call hR).done
  clear hR HR
  go_wp2_with fail
  exact bodyPost_ret (v := .tuple #[]) (by simp [results, Try.results73, go_sem]) rfl ⟨rfl, _, HB.out, _, HF.out⟩
theorem madeCells_three (n : Nat) : (madeCells #[.int .u8 0, .int .i64 0, .int .i64 0] (n * 3)).toList = vcs (List.replicate n zv) := by
  unfold madeCells
  rw [Array.toList_map, Array.toList_range]
  induction n with
  | zero => rfl
  | succ n ih =>
    have e : (n + 1) * 3 = n * 3 + 1 + 1 + 1 := by omega
    rw [e, List.range_succ, List.range_succ, List.range_succ, List.map_append, List.map_append, List.map_append, ih, List.replicate_succ', vcs_append]
    have m0 : n * 3 % 3 = 0 := by omega
    have m1 : (n * 3 + 1) % 3 = 1 := by omega
    have m2 : (n * 3 + 1 + 1) % 3 = 2 := by omega
    simp [m0, m1, m2, vcs, vc, zv]
theorem set_rep (j : Nat) (l : List V) (v : V) : (List.replicate (j + 1) zv ++ l).set j v = List.replicate j zv ++ (v :: l) := by
  rw [List.replicate_succ', List.append_assoc, List.set_append_right _ _ (by simp)]
  simp
/-- What holds when t arguments are taken. -/
def CallJ (w0 W : World) (K : Nat → Prop) (X : Sx) (rb : Nat) (fgs : List Nat) (c : Nat) (s : Mc) (A : List Int) (t6 : Nat) (C8 : List Value) (t : Nat) (wr : World) : Prop :=
  ∃ Kx, Rk w0 W K wr Kx X rb fgs c (s.take (A.reverse.take t)).2 ∧ Kx t6 ∧ Kx (t6 + 1) ∧ Blk wr t6 C8 ∧ Blk wr (t6 + 1) (vcs (List.replicate (A.length - t) zv ++ (s.take (A.reverse.take t)).1.reverse)) ∧ ∀ v ∈ (s.take (A.reverse.take t)).1, VOk v
theorem CallJ.next {A : List Int} {t6 : Nat} {C8 : List Value} {t j : Nat} {w1 w2 : World} (hj : A.length = j + t + 1) {Kx : Nat → Prop} (hn : W.heap.size ≤ t6 + 1) (R : Rk w0 W K w1 Kx X rb fgs c (s.take (A.reverse.take t)).2) (k6 : Kx t6) (k7 : Kx (t6 + 1)) (B6 : Blk w1 t6 C8) (B7 : Blk w1 (t6 + 1) (vcs (List.replicate (A.length - t) zv ++ (s.take (A.reverse.take t)).1.reverse)))
    (hv : ∀ v ∈ (s.take (A.reverse.take t)).1, VOk v) {p : V × Mc} (hp : (s.take (A.reverse.take t)).2.pop (A[j]'(by omega)) = p) (hpv : VOk p.1) (hR : RunK w0 w1 X rb fgs c p.2 Kx w2) :
    CallJ w0 W K X rb fgs c s A t6 C8 (t + 1) (((w2.setCell ⟨t6 + 1, j * 3, none⟩ (.int .u8 p.1.1)).setCell ⟨t6 + 1, j * 3 + 1, none⟩ (.int .i64 p.1.2.1)).setCell ⟨t6 + 1, j * 3 + 2, none⟩ (.int .i64 p.1.2.2)) ∧
      (w2.cell? ⟨t6 + 1, j * 3, none⟩ = some (.int .u8 0) ∧ w2.cell? ⟨t6 + 1, j * 3 + 1, none⟩ = some (.int .i64 0) ∧ w2.cell? ⟨t6 + 1, j * 3 + 2, none⟩ = some (.int .i64 0)) ∧ (∀ o, w2.frozen? ⟨t6 + 1, o, none⟩ = false) ∧ t6 + 1 < w2.heap.size := by
  have hrl : t < A.reverse.length := by rw [List.length_reverse]; omega
  have e1 : A.reverse.take (t + 1) = A.reverse.take t ++ [A[j]'(by omega)] := by
    rw [List.take_succ_eq_append_getElem hrl]
    congr 2
    rw [List.getElem_reverse]
    congr 1
    omega
  have R2 := R.call hR
  have B62 := B6.keep hR.2 k6
  have B72 := B7.keep hR.2 k7
  rw [show A.length - t = j + 1 by omega] at B72
  have hjl : j < (List.replicate (j + 1) zv ++ (s.take (A.reverse.take t)).1.reverse).length := by simp; omega
  obtain ⟨a0, a1, a2⟩ := vcs_get _ j hjl
  have e0 : (List.replicate (j + 1) zv ++ (s.take (A.reverse.take t)).1.reverse)[j] = zv := by
    rw [List.getElem_append_left (by simp)]
    simp
  rw [e0] at a0 a1 a2
  have B73 := ((B72.set (j := j * 3) a0 (.int .u8 p.1.1)).set (j := j * 3 + 1) (by rw [List.getElem?_set_ne (by omega)]; exact a1) (.int .i64 p.1.2.1)).set (j := j * 3 + 2) (by rw [List.getElem?_set_ne (by omega), List.getElem?_set_ne (by omega)]; exact a2) (.int .i64 p.1.2.2)
  rw [vcs_set _ p.1 j hjl, set_rep] at B73
  refine ⟨⟨Kx, ?_, k6, k7, ?_, ?_, ?_⟩, ⟨B72.c _ _ a0, B72.c _ _ a1, B72.c _ _ a2⟩, B72.f, B72.l⟩
  · rw [e1, take_snoc, hp]
    exact ((R2.set k7 hn (j * 3) _).set k7 hn (j * 3 + 1) _).set k7 hn (j * 3 + 2) _
  · exact ((B62.other (by omega) _ _).other (by omega) _ _).other (by omega) _ _
  · rw [e1, take_snoc, hp, show A.length - (t + 1) = j by omega]
    simpa using B73
  · rw [e1, take_snoc, hp]
    intro v hv2
    rcases List.mem_append.1 hv2 with hv2 | hv2
    · exact hv v hv2
    · rw [List.mem_singleton.1 hv2]; exact hpv
theorem vs_at {w : World} {b : Nat} {vs : List V} (h : Blk w b (vcs vs)) (hv : ∀ v ∈ vs, VOk v) : VsAt w (some ⟨b, 0, none⟩) vs.length vs := by
  refine ⟨rfl, fun i hi => ?_⟩
  obtain ⟨a0, a1, a2⟩ := vcs_get vs i hi
  have e : ∀ k, (0 : Nat) + k = k := fun k => by omega
  exact ⟨b, 0, rfl, h.l, hv _ (List.getElem_mem hi), by rw [e]; exact h.c _ _ a0, by rw [e]; exact h.c _ _ a1, by rw [e]; exact h.c _ _ a2⟩

set_option maxHeartbeats 2000000 in
theorem call_bad (h : RunAt w0 W X rb fgs c s K) (hf : Topf fgs fg) (k : Nat) (hk : k < X.m.mts.length) (hi : inB (k : Int) ((X.nm : Int) - 1) = true) (hcase : newB X.m.mts[k].args X.m.mts[k].locs (s.take X.m.mts[k].args.reverse).1.reverse = false) :
    Calls Try.prog 73 #[.pointer (some ⟨rb, 0, none⟩), .pointer (some ⟨fg, 0, none⟩), .int .i64 (k : Int)] W fun e W' => e = .returned (.tuple #[]) ∧ ∃ fgs', RunK w0 W X rb fgs' c (s.call X.m (k : Int)) K W' ∧ ∃ fg', Topf fgs' fg' := by
  have md := h.md0
  obtain ⟨g, o, hmm, hgl, Aa, na, ca, Al, nl, cl, Ac, nc, cc, rd, y1, y2, y3, m0, m1, m2, m3, m4, m5, m6, m7, hba, hbl, -, hna, hnl, -, -⟩ := md.mts k hk
  obtain ⟨x, hx⟩ : ∃ x, X.m.mts[k] = x := ⟨_, rfl⟩
  rw [hx] at m2 hba hbl hcase
  have e : s.call X.m (k : Int) = if newB x.args x.locs (s.take x.args.reverse).1.reverse = true ∧ (s.take x.args.reverse).2.frs.length ≤ 256 then { (s.take x.args.reverse).2 with frs := (s.take x.args.reverse).2.frs ++ [newFr x.args x.locs (s.take x.args.reverse).1.reverse], ms := (s.take x.args.reverse).2.ms ++ [k] } else (s.take x.args.reverse).2.cant := by
    unfold Mc.call
    rw [md.ml, hi, if_pos rfl, Int.toNat_natCast, List.getElem?_eq_getElem hk, hx]
  rw [e, if_neg (by rw [hcase]; simp)]
  have bw := h.bw
  have l0 : w0.heap.size ≤ W.heap.size := bw.size
  have mm := fun (j : Nat) v (hv : w0.cell? ⟨g, o + k * 8 + j, none⟩ = some v) => (bw.cell (p := ⟨g, o + k * 8 + j, none⟩) hgl).trans hv
  have m0 : W.cell? ⟨g, o + k * 8, none⟩ = some (.slice Aa na ca) := mm 0 _ m0
  have m1 := mm 1 _ m1
  have m2 := mm 2 _ m2
  have m3 := mm 3 _ m3
  have m4 := mm 4 _ m4
  have m5 := mm 5 _ m5
  have m6 := mm 6 _ m6
  have m7 := mm 7 _ m7
  have gl : g < W.heap.size := by omega
  have hal := hba.1
  have HBA := Lib.hid (And.intro hba hbl)
  have HIN : Hid (∀ V, Calls Try.prog 17 #[.int .i64 (k : Int), .int .i64 ((X.nm : Int) - 1)] V fun e V' => e = .returned (.bool true) ∧ V = V') := Lib.hid (fun V => by rw [← hi]; exact (in_any _ _ _).mono (fun _ _ h => ⟨h.1, h.2.symm⟩))
  have hkn : (k : Int) < (X.nm : Int) := by have := md.ml; omega
  obtain ⟨W1, t6, K1, hW1, ht6, R1, k6, k7, B6o, B7⟩ := first_two h #[.slice Aa na ca, .slice Al nl cl, .int .u8 x.res, .bool rd, .int .i64 y1, .int .i64 y2, .int .i64 y3, .slice Ac nc cc] 50 (madeCells #[.int .u8 0, .int .i64 0, .int .i64 0] (na * 3)) 29
  rw [madeCells_three] at B7
  have hn6 : W.heap.size ≤ t6 + 1 := by omega
  have hn6' : W.heap.size ≤ t6 := by omega
  obtain ⟨C8, hC8⟩ : ∃ C, [Value.slice Aa na ca, .slice Al nl cl, .int .u8 x.res, .bool rd, .int .i64 y1, .int .i64 y2, .int .i64 y3, .slice Ac nc cc] = C := ⟨_, rfl⟩
  have B6 : Blk W1 t6 C8 := by rw [← hC8]; exact B6o
  have hC0 : C8[0]? = some (.slice Aa na ca) := by rw [← hC8]; rfl
  have hC1 : C8[1]? = some (.slice Al nl cl) := by rw [← hC8]; rfl
  have HJ0 : Hid (CallJ w0 W K X rb fgs c s x.args t6 C8 0 W1) := Lib.hid ⟨K1, R1, k6, k7, B6, by
    show Blk W1 (t6 + 1) (vcs (List.replicate (x.args.length - 0) zv ++ []))
    rw [List.append_nil, Nat.sub_zero, hal]
    exact B7, fun v hv => by cases hv⟩
  have hmk : ∀ V : World, (Instr.makeSlice 22 (.int .i64 (na : Int)) (.int .i64 (na : Int))).run Try.prog V = .ok (.slice (some ⟨V.heap.size, 0, none⟩) na na) (V.alloc (.cells (madeCells #[.int .u8 0, .int .i64 0, .int .i64 0] (na * 3)) 29)) := by
    intro V
    obtain ⟨i2, hi2, hz0, hz1, hz2⟩ := fr_parts info37
    have := run_make (P := Try.prog) V 22 29 i2 _ Try.underlying22 hi2 hz0 .i64 .i64 na na (by omega) (Int.le_refl _) (by rw [hz2]; omega) (by omega)
    rw [hz1] at this
    simpa [Value.cells] using this
  have HE := Lib.hid (And.intro hW1 ht6)
  have c2 := h.c2
  rw [hmm] at c2
  have rl := h.rbl
  have HF := Lib.hid (And.intro hf (And.intro h.rk0 hcase))
  have hnm := md.nm
  have wn : IntKind.i64.wrap ((X.nm : Int) - 1) = (X.nm : Int) - 1 := IntWalk.i64_in _ (by omega)
  have HXL : Hid (x.args.length = na ∧ ∃ hk : k < X.m.mts.length, X.m.mts[k] = x) := Lib.hid ⟨hal, hk, hx⟩
  have HC0 := Lib.hid (And.intro hC0 hC1)
  have hna0 : 0 ≤ (na : Int) := by omega
  have hna20 : (na : Int) ≤ 20 := by omega
  clear h hf e hi hk md hx hal hba hbl bw mm R1 B6 B6o B7 hC8 hC0 hC1 hW1 ht6 k6 k7 hmm hcase hgl l0
  go_enter Try.func73, Try.ntmps73
  go_wp2_with fail
  refine (HIN.out _).mono ?_
  rintro e w2 ⟨rfl, rfl⟩
  go_wp2_with fail
  rw [HE.out.1, HE.out.2]
  clear m0 m1 m2 m3 m4 m5 m6 m7 HE hmk wn c2 rl
  go_loopw [8] (fun i wr => ∃ t : Nat, t ≤ na ∧ i = .int .i64 ((na : Int) - t - 1) ∧ CallJ w0 W K X rb fgs c s x.args t6 C8 t wr) (fun i _ => (intOf i + 1).toNat)
  case atStart => exact ⟨0, Nat.zero_le _, by go_num, HJ0.out⟩
  case round =>
    obtain ⟨t, htn, rfl, Kx, R, k6, k7, B6, B7, hv⟩ := hrel
    by_cases hlt : t < na
    · obtain ⟨j, hj⟩ : ∃ j, na = j + t + 1 := ⟨na - t - 1, by omega⟩
      have ej : (na : Int) - t - 1 = (j : Int) := by omega
      rw [ej]
      have hjl : j < x.args.length := by rw [HXL.out.1]; omega
      obtain ⟨ga, oa, eA, hga, hκ, hcell⟩ := (HBA.out.1.below R.r.bw).2 j hjl
      have HPP := Lib.hid (fun w2 p (hp : (s.take (x.args.reverse.take t)).2.pop (x.args[j]'hjl) = p) hpv hR => CallJ.next (w2 := w2) (by rw [HXL.out.1]; exact hj) hn6 R k6 k7 B6 B7 hv hp hpv hR)
      have HP := Lib.hid (pop_at R.r HF.out.1 x.args[j] hκ)
      have HPV := Lib.hid (pop_ok R.r HF.out.1 x.args[j])
      have b0 := B6.c 0 _ HC0.out.1
      rw [eA] at b0
      clear eA
      have b6l := B6.l
      obtain ⟨⟨⟨u0, u1, u2⟩, s2⟩, hp⟩ : ∃ p, (s.take (x.args.reverse.take t)).2.pop (x.args[j]'hjl) = p := ⟨_, rfl⟩
      rw [hp] at HP HPV
      have HPQ := Lib.hid (HPP.out · _ hp HPV.out)
      unfold vagg at HP
      dsimp only at HP
      generalize x.args[j] = κ at *
      have hj0 : 0 ≤ (j : Int) := by omega
      have hj1 : (j : Int) < (na : Int) := by omega
      have hj2 : (j : Int) ≤ 20 := by omega
      have HJJ := Lib.hid (And.intro hj hlt)
      clear hp HPP R k6 k7 B6 B7 hv hjl hj hlt hκ ej
      go_wp2_with fail
      refine HP.out.mono ?_
      rintro e w3 ⟨rfl, hR⟩
      obtain ⟨hJ, ⟨z0, z1, z2⟩, zf, zl⟩ := HPQ.out w3 hR
      have f0 := zf (j * 3)
      have f1 := zf (j * 3 + 1)
      have f2 := zf (j * 3 + 2)
      have HJ := Lib.hid hJ
      clear hR hJ zf HPQ HP b0
      go_wp2_with fail
      go_roundw
      case rel =>
        have hj := HJJ.out.1
        exact ⟨t + 1, by omega, by rw [show (na : Int) - ((t + 1 : Nat) : Int) - 1 = (j : Int) - 1 by omega], HJ.out⟩
      case measure => first | (simp [intOf]; done) | (simp [intOf]; omega)
    · obtain rfl : t = na := by omega
      have eA : x.args.reverse.take t = x.args.reverse := List.take_of_length_le (by rw [List.length_reverse, HXL.out.1]; exact Nat.le_refl _)
      rw [eA] at R B7 hv
      rw [HXL.out.1, Nat.sub_self, List.replicate_zero, List.nil_append] at B7
      have em : (t : Int) - t - 1 = -1 := by omega
      rw [em]
      have b0 := B6.c 0 _ HC0.out.1
      have b1 := B6.c 1 _ HC0.out.2
      have b6l := B6.l
      have hvl : (s.take x.args.reverse).1.reverse.length = t := by rw [List.length_reverse, take_vlen, List.length_reverse, HXL.out.1]
      have hA0 := HBA.out.1.below R.r.bw
      have hA1 := HBA.out.2.below R.r.bw
      have hA2 := vs_at B7 (fun v hv2 => hv v (List.mem_reverse.1 hv2))
      rw [hvl] at hA2
      obtain ⟨vs, hvs⟩ : ∃ l, (s.take x.args.reverse).1.reverse = l := ⟨_, rfl⟩
      obtain ⟨st, hst⟩ : ∃ l, (s.take x.args.reverse).2 = l := ⟨_, rfl⟩
      have HVS := Lib.hid (And.intro hvs hst)
      have HN := Lib.hid (fo_new_no wr Aa Al (some ⟨t6 + 1, 0, none⟩) t nl t ca cl t x.args x.locs _ hA0 hA1 hA2 (by omega) (by omega) (by omega) (by rw [← newB_iff]; rw [HF.out.2.2]; decide))
      have HR := Lib.hid R
      clear R k6 k7 B6 B7 hv hA0 hA1 hA2 htn eA hvl hvs hst em hlt
      go_wp2_with fail
      refine HN.out.mono ?_
      rintro e w3 ⟨rfl, hb⟩
      obtain ⟨K3, R3, -, -⟩ := HR.out.below hb
      have HC := Lib.hid (cant_at R3.r)
      have HR3 := Lib.hid R3
      clear hb R3 HR
      go_wp2_with fail
      refine HC.out.mono ?_
      rintro e w4 ⟨rfl, hR⟩
      have HB := Lib.hid (HR3.out.call hR).done
      clear hR HR3
      go_wp2_with fail
      exact bodyPost_ret (v := .tuple #[]) (by simp [results, Try.results73, go_sem]) rfl ⟨rfl, _, HB.out, _, HF.out.1⟩

set_option maxHeartbeats 2000000 in
theorem call_many (h : RunAt w0 W X rb fgs c s K) (hf : Topf fgs fg) (k : Nat) (hk : k < X.m.mts.length) (hi : inB (k : Int) ((X.nm : Int) - 1) = true) (hcase : newB X.m.mts[k].args X.m.mts[k].locs (s.take X.m.mts[k].args.reverse).1.reverse = true ∧ ¬ (s.take X.m.mts[k].args.reverse).2.frs.length ≤ 256) :
    Calls Try.prog 73 #[.pointer (some ⟨rb, 0, none⟩), .pointer (some ⟨fg, 0, none⟩), .int .i64 (k : Int)] W fun e W' => e = .returned (.tuple #[]) ∧ ∃ fgs', RunK w0 W X rb fgs' c (s.call X.m (k : Int)) K W' ∧ ∃ fg', Topf fgs' fg' := by
  have md := h.md0
  obtain ⟨g, o, hmm, hgl, Aa, na, ca, Al, nl, cl, Ac, nc, cc, rd, y1, y2, y3, m0, m1, m2, m3, m4, m5, m6, m7, hba, hbl, -, hna, hnl, -, -⟩ := md.mts k hk
  obtain ⟨x, hx⟩ : ∃ x, X.m.mts[k] = x := ⟨_, rfl⟩
  rw [hx] at m2 hba hbl hcase
  have e : s.call X.m (k : Int) = if newB x.args x.locs (s.take x.args.reverse).1.reverse = true ∧ (s.take x.args.reverse).2.frs.length ≤ 256 then { (s.take x.args.reverse).2 with frs := (s.take x.args.reverse).2.frs ++ [newFr x.args x.locs (s.take x.args.reverse).1.reverse], ms := (s.take x.args.reverse).2.ms ++ [k] } else (s.take x.args.reverse).2.cant := by
    unfold Mc.call
    rw [md.ml, hi, if_pos rfl, Int.toNat_natCast, List.getElem?_eq_getElem hk, hx]
  rw [e, if_neg (fun z => hcase.2 z.2)]
  have bw := h.bw
  have l0 : w0.heap.size ≤ W.heap.size := bw.size
  have mm := fun (j : Nat) v (hv : w0.cell? ⟨g, o + k * 8 + j, none⟩ = some v) => (bw.cell (p := ⟨g, o + k * 8 + j, none⟩) hgl).trans hv
  have m0 : W.cell? ⟨g, o + k * 8, none⟩ = some (.slice Aa na ca) := mm 0 _ m0
  have m1 := mm 1 _ m1
  have m2 := mm 2 _ m2
  have m3 := mm 3 _ m3
  have m4 := mm 4 _ m4
  have m5 := mm 5 _ m5
  have m6 := mm 6 _ m6
  have m7 := mm 7 _ m7
  have gl : g < W.heap.size := by omega
  have hal := hba.1
  have HBA := Lib.hid (And.intro hba hbl)
  have HIN : Hid (∀ V, Calls Try.prog 17 #[.int .i64 (k : Int), .int .i64 ((X.nm : Int) - 1)] V fun e V' => e = .returned (.bool true) ∧ V = V') := Lib.hid (fun V => by rw [← hi]; exact (in_any _ _ _).mono (fun _ _ h => ⟨h.1, h.2.symm⟩))
  have hkn : (k : Int) < (X.nm : Int) := by have := md.ml; omega
  obtain ⟨W1, t6, K1, hW1, ht6, R1, k6, k7, B6o, B7⟩ := first_two h #[.slice Aa na ca, .slice Al nl cl, .int .u8 x.res, .bool rd, .int .i64 y1, .int .i64 y2, .int .i64 y3, .slice Ac nc cc] 50 (madeCells #[.int .u8 0, .int .i64 0, .int .i64 0] (na * 3)) 29
  rw [madeCells_three] at B7
  have hn6 : W.heap.size ≤ t6 + 1 := by omega
  have hn6' : W.heap.size ≤ t6 := by omega
  obtain ⟨C8, hC8⟩ : ∃ C, [Value.slice Aa na ca, .slice Al nl cl, .int .u8 x.res, .bool rd, .int .i64 y1, .int .i64 y2, .int .i64 y3, .slice Ac nc cc] = C := ⟨_, rfl⟩
  have B6 : Blk W1 t6 C8 := by rw [← hC8]; exact B6o
  have hC0 : C8[0]? = some (.slice Aa na ca) := by rw [← hC8]; rfl
  have hC1 : C8[1]? = some (.slice Al nl cl) := by rw [← hC8]; rfl
  have HJ0 : Hid (CallJ w0 W K X rb fgs c s x.args t6 C8 0 W1) := Lib.hid ⟨K1, R1, k6, k7, B6, by
    show Blk W1 (t6 + 1) (vcs (List.replicate (x.args.length - 0) zv ++ []))
    rw [List.append_nil, Nat.sub_zero, hal]
    exact B7, fun v hv => by cases hv⟩
  have hmk : ∀ V : World, (Instr.makeSlice 22 (.int .i64 (na : Int)) (.int .i64 (na : Int))).run Try.prog V = .ok (.slice (some ⟨V.heap.size, 0, none⟩) na na) (V.alloc (.cells (madeCells #[.int .u8 0, .int .i64 0, .int .i64 0] (na * 3)) 29)) := by
    intro V
    obtain ⟨i2, hi2, hz0, hz1, hz2⟩ := fr_parts info37
    have := run_make (P := Try.prog) V 22 29 i2 _ Try.underlying22 hi2 hz0 .i64 .i64 na na (by omega) (Int.le_refl _) (by rw [hz2]; omega) (by omega)
    rw [hz1] at this
    simpa [Value.cells] using this
  have HE := Lib.hid (And.intro hW1 ht6)
  have c2 := h.c2
  rw [hmm] at c2
  have rl := h.rbl
  have HF := Lib.hid (And.intro hf (And.intro h.rk0 hcase))
  have hnm := md.nm
  have wn : IntKind.i64.wrap ((X.nm : Int) - 1) = (X.nm : Int) - 1 := IntWalk.i64_in _ (by omega)
  have HXL : Hid (x.args.length = na ∧ ∃ hk : k < X.m.mts.length, X.m.mts[k] = x) := Lib.hid ⟨hal, hk, hx⟩
  have HC0 := Lib.hid (And.intro hC0 hC1)
  have hna0 : 0 ≤ (na : Int) := by omega
  have hna20 : (na : Int) ≤ 20 := by omega
  clear h hf e hi hk md hx hal hba hbl bw mm R1 B6 B6o B7 hC8 hC0 hC1 hW1 ht6 k6 k7 hmm hcase hgl l0
  go_enter Try.func73, Try.ntmps73
  go_wp2_with fail
  refine (HIN.out _).mono ?_
  rintro e w2 ⟨rfl, rfl⟩
  go_wp2_with fail
  rw [HE.out.1, HE.out.2]
  clear m0 m1 m2 m3 m4 m5 m6 m7 HE hmk wn c2 rl
  go_loopw [8] (fun i wr => ∃ t : Nat, t ≤ na ∧ i = .int .i64 ((na : Int) - t - 1) ∧ CallJ w0 W K X rb fgs c s x.args t6 C8 t wr) (fun i _ => (intOf i + 1).toNat)
  case atStart => exact ⟨0, Nat.zero_le _, by go_num, HJ0.out⟩
  case round =>
    obtain ⟨t, htn, rfl, Kx, R, k6, k7, B6, B7, hv⟩ := hrel
    by_cases hlt : t < na
    · obtain ⟨j, hj⟩ : ∃ j, na = j + t + 1 := ⟨na - t - 1, by omega⟩
      have ej : (na : Int) - t - 1 = (j : Int) := by omega
      rw [ej]
      have hjl : j < x.args.length := by rw [HXL.out.1]; omega
      obtain ⟨ga, oa, eA, hga, hκ, hcell⟩ := (HBA.out.1.below R.r.bw).2 j hjl
      have HPP := Lib.hid (fun w2 p (hp : (s.take (x.args.reverse.take t)).2.pop (x.args[j]'hjl) = p) hpv hR => CallJ.next (w2 := w2) (by rw [HXL.out.1]; exact hj) hn6 R k6 k7 B6 B7 hv hp hpv hR)
      have HP := Lib.hid (pop_at R.r HF.out.1 x.args[j] hκ)
      have HPV := Lib.hid (pop_ok R.r HF.out.1 x.args[j])
      have b0 := B6.c 0 _ HC0.out.1
      rw [eA] at b0
      clear eA
      have b6l := B6.l
      obtain ⟨⟨⟨u0, u1, u2⟩, s2⟩, hp⟩ : ∃ p, (s.take (x.args.reverse.take t)).2.pop (x.args[j]'hjl) = p := ⟨_, rfl⟩
      rw [hp] at HP HPV
      have HPQ := Lib.hid (HPP.out · _ hp HPV.out)
      unfold vagg at HP
      dsimp only at HP
      generalize x.args[j] = κ at *
      have hj0 : 0 ≤ (j : Int) := by omega
      have hj1 : (j : Int) < (na : Int) := by omega
      have hj2 : (j : Int) ≤ 20 := by omega
      have HJJ := Lib.hid (And.intro hj hlt)
      clear hp HPP R k6 k7 B6 B7 hv hjl hj hlt hκ ej
      go_wp2_with fail
      refine HP.out.mono ?_
      rintro e w3 ⟨rfl, hR⟩
      obtain ⟨hJ, ⟨z0, z1, z2⟩, zf, zl⟩ := HPQ.out w3 hR
      have f0 := zf (j * 3)
      have f1 := zf (j * 3 + 1)
      have f2 := zf (j * 3 + 2)
      have HJ := Lib.hid hJ
      clear hR hJ zf HPQ HP b0
      go_wp2_with fail
      go_roundw
      case rel =>
        have hj := HJJ.out.1
        exact ⟨t + 1, by omega, by rw [show (na : Int) - ((t + 1 : Nat) : Int) - 1 = (j : Int) - 1 by omega], HJ.out⟩
      case measure => first | (simp [intOf]; done) | (simp [intOf]; omega)
    · obtain rfl : t = na := by omega
      have eA : x.args.reverse.take t = x.args.reverse := List.take_of_length_le (by rw [List.length_reverse, HXL.out.1]; exact Nat.le_refl _)
      rw [eA] at R B7 hv
      rw [HXL.out.1, Nat.sub_self, List.replicate_zero, List.nil_append] at B7
      have em : (t : Int) - t - 1 = -1 := by omega
      rw [em]
      have b0 := B6.c 0 _ HC0.out.1
      have b1 := B6.c 1 _ HC0.out.2
      have b6l := B6.l
      have hvl : (s.take x.args.reverse).1.reverse.length = t := by rw [List.length_reverse, take_vlen, List.length_reverse, HXL.out.1]
      have hA0 := HBA.out.1.below R.r.bw
      have hA1 := HBA.out.2.below R.r.bw
      have hA2 := vs_at B7 (fun v hv2 => hv v (List.mem_reverse.1 hv2))
      rw [hvl] at hA2
      obtain ⟨vs, hvs⟩ : ∃ l, (s.take x.args.reverse).1.reverse = l := ⟨_, rfl⟩
      obtain ⟨st, hst⟩ : ∃ l, (s.take x.args.reverse).2 = l := ⟨_, rfl⟩
      have HVS := Lib.hid (And.intro hvs hst)
      have HN := Lib.hid (fo_new wr Aa Al (some ⟨t6 + 1, 0, none⟩) t nl t ca cl t x.args x.locs _ hA0 hA1 hA2 (by omega) (by omega) (by omega) (by rw [← newB_iff]; exact HF.out.2.2.1))
      have HR := Lib.hid R
      clear R k6 k7 B6 B7 hv hA0 hA1 hA2 htn eA hvl hvs hst em hlt
      go_wp2_with fail
      refine HN.out.mono ?_
      rintro e w3 ⟨fg2, rfl, hFO⟩
      obtain ⟨Af0, cf0, c4, -⟩ := (HR.out.below hFO.bw).elim (fun K3 R3 => R3.1.r.frow)
      obtain ⟨K3, R3, -, -⟩ := HR.out.below hFO.bw
      have rl3 := R3.r.rbl
      have HLEN : Hid (fgs.length = (s.take x.args.reverse).2.frs.length) := Lib.hid R3.r.frl
      obtain ⟨n, hn⟩ : ∃ n, fgs.length = n := ⟨_, rfl⟩
      have hn257 : n ≤ 257 := by rw [← hn, HLEN.out]; exact R3.r.ok.fl
      have hn256 : (256 : Int) < (n : Int) := by have := HF.out.2.2.2; rw [← HLEN.out, hn] at this; omega
      rw [hn] at c4
      have HC := Lib.hid (cant_at R3.r)
      have HR3 := Lib.hid R3
      clear hFO R3 HR hn
      go_wp2_with fail
      refine HC.out.mono ?_
      rintro e w4 ⟨rfl, hR⟩
      have HB := Lib.hid (HR3.out.call hR).done
      clear hR HR3
      go_wp2_with fail
      exact bodyPost_ret (v := .tuple #[]) (by simp [results, Try.results73, go_sem]) rfl ⟨rfl, _, HB.out, _, HF.out.1⟩
end
#print axioms vs_at
#print axioms call_bad
#print axioms call_many
end Go.Proofs.Ytkhgpeejmbfmjaa
/- The run in memory: two rows that grow: the start. -/
namespace Go.Proofs.Ytkhgpeejmbfmjaa
open Go.RowKit
set_option linter.unusedSimpArgs false
set_option linter.unusedVariables false
set_option maxRecDepth 100000
section
variable {w0 W : World} {X : Sx} {rb : Nat} {fgs : List Nat} {c : Nat} {s : Mc} {K : Nat → Prop} {fg : Nat}

section
variable {own : Nat → Nat} {Af : Option Addr} {cf : Nat} {Am : Option Addr} {cm gh gw : Nat} {Ag : Option Addr} {cg : Nat}
theorem GJ.start (h : RunIn w0 W X rb fgs c s K own Af cf Am cm gh gw Ag cg) (pf pm : Value) : GJ W X rb gh (.slice Ag s.gl.length cg) s (.slice Af fgs.length cf) (.slice Am s.ms.length cm) fgs.length s.ms.length (ptrs fgs) (ints s.ms) pf pm (fun _ => false) undef undef undef undef undef undef undef undef undef undef undef undef undef undef undef undef undef undef undef undef W.drew := by
  refine ⟨(Touch.refl _ _).drew, ⟨_, _, h.blk.drew, fun _ => rfl, fun e => (by cases e), fun _ => rfl, fun e => (by cases e)⟩, fun _ => h.rowF, fun e => (by cases e), fun _ => h.rowM, fun e => (by cases e), ?_, fun e => (by cases e), fun e => (by cases e), fun e => (by cases e), fun e => (by cases e), fun e => (by cases e), fun e => (by cases e), fun e => (by cases e), fun e => (by cases e), fun e => (by cases e), fun e => (by cases e), fun e => (by cases e), fun e => (by cases e), fun e => (by cases e), fun e => (by cases e), fun e => (by cases e), fun e => (by cases e), fun e => (by cases e), fun e => (by cases e), fun e => (by cases e), fun e => (by cases e), fun e => (by cases e), fun e => (by cases e)⟩
  intro b hb e
  have hb : (Value.slice Af fgs.length cf).ownBlock = some b := hb
  have e : (Value.slice Am s.ms.length cm).ownBlock = some b := e
  cases Af with
  | none => cases hb
  | some a =>
    cases Am with
    | none => cases e
    | some a' => exact h.mine.ne a a' rfl rfl ((Option.some.inj hb).trans (Option.some.inj e).symm)
end
section
variable {V0 V : World} {gh : Nat} {sg : Value} {SF SM : Value} {n m : Nat} {xs ys : List Value} {pf pm : Value} {L : Nat → Bool} {v0 v1 v2 v3 v4 v5 v6 v7 v8 v9 v10 v11 v12 v13 v14 v15 v16 v17 v18 v19 : Value}
theorem GJ.c4 (h : GJ V0 X rb gh sg s SF SM n m xs ys pf pm L v0 v1 v2 v3 v4 v5 v6 v7 v8 v9 v10 v11 v12 v13 v14 v15 v16 v17 v18 v19 V) (e : L 5 = false) : V.cell? ⟨rb, 4, none⟩ = some SF := by
  have e18 : L 18 = false := by cases h18 : L 18 with | false => rfl | true => rw [h.q8 (h.q18 h18)] at e; cases e
  obtain ⟨c4, c5, b, r1, -⟩ := h.b
  rw [← r1 e18]
  exact b.c 4 _ rfl
theorem GJ.c5 (h : GJ V0 X rb gh sg s SF SM n m xs ys pf pm L v0 v1 v2 v3 v4 v5 v6 v7 v8 v9 v10 v11 v12 v13 v14 v15 v16 v17 v18 v19 V) (e : L 12 = false) : V.cell? ⟨rb, 5, none⟩ = some SM := by
  have e21 : L 21 = false := by cases h21 : L 21 with | false => rfl | true => rw [h.q15 (h.q21 h21)] at e; cases e
  obtain ⟨c4, c5, b, -, -, r1, -⟩ := h.b
  rw [← r1 e21]
  exact b.c 5 _ rfl
theorem GJ.rbl (h : GJ V0 X rb gh sg s SF SM n m xs ys pf pm L v0 v1 v2 v3 v4 v5 v6 v7 v8 v9 v10 v11 v12 v13 v14 v15 v16 v17 v18 v19 V) : rb + 1 ≤ V.heap.size := by
  obtain ⟨c4, c5, b, -⟩ := h.b
  exact b.l
theorem row_some {W : World} {b e k : Nat} {v : Value} {zs : List Value} (h : W.ownsRow b e 1 v (k + 1) zs) : ∃ g cap, v = .slice (some ⟨g, 0, none⟩) (k + 1) cap := by
  rcases h.2 with ⟨-, e2⟩ | ⟨g, cap, cur, e, -⟩
  · omega
  · exact ⟨g, cap, e⟩
theorem one_news {w : World} {b : Nat} {p : Value} (h : Blk w b [p]) : ∀ (j : Nat) (u : Value), [p][j]? = some u → w.cell? ((⟨b, 0, none⟩ : Addr).add j) = some u := by
  intro j u hu
  rcases j with _ | j
  · exact h.c 0 u hu
  · simp at hu
theorem one_cell {p : Value} (h : p.oneCell' = true) : ∀ u ∈ [p], u.oneCell' = true := by
  intro u hu
  rw [List.mem_singleton.1 hu]
  exact h
end
theorem info66 : (Try.prog.info? 66).map (fun i => (i.zero, i.size, i.bytes)) = some (some (.pointer none), 1, 8) := by kernel_rfl
theorem info3 : (Try.prog.info? 3).map (fun i => (i.zero, i.size, i.bytes)) = some (some (.int .i64 0), 1, 8) := by kernel_rfl
end
#print axioms one_cell
#print axioms info66
#print axioms info3
end Go.Proofs.Ytkhgpeejmbfmjaa
/- The run in memory: call. -/
namespace Go.Proofs.Ytkhgpeejmbfmjaa
open Go.RowKit
set_option linter.unusedSimpArgs false
set_option linter.unusedVariables false
set_option maxRecDepth 100000
section
variable {w0 W : World} {X : Sx} {rb : Nat} {fgs : List Nat} {c : Nat} {s : Mc} {K : Nat → Prop} {fg : Nat}

set_option maxHeartbeats 8000000 in
theorem call_ok (h : RunAt w0 W X rb fgs c s K) (hf : Topf fgs fg) (k : Nat) (hk : k < X.m.mts.length) (hi : inB (k : Int) ((X.nm : Int) - 1) = true) (hcase : newB X.m.mts[k].args X.m.mts[k].locs (s.take X.m.mts[k].args.reverse).1.reverse = true ∧ (s.take X.m.mts[k].args.reverse).2.frs.length ≤ 256) :
    Calls Try.prog 73 #[.pointer (some ⟨rb, 0, none⟩), .pointer (some ⟨fg, 0, none⟩), .int .i64 (k : Int)] W fun e W' => e = .returned (.tuple #[]) ∧ ∃ fgs', RunK w0 W X rb fgs' c (s.call X.m (k : Int)) K W' ∧ ∃ fg', Topf fgs' fg' := by
  have md := h.md0
  obtain ⟨g, o, hmm, hgl, Aa, na, ca, Al, nl, cl, Ac, nc, cc, rd, y1, y2, y3, m0, m1, m2, m3, m4, m5, m6, m7, hba, hbl, -, hna, hnl, -, -⟩ := md.mts k hk
  obtain ⟨x, hx⟩ : ∃ x, X.m.mts[k] = x := ⟨_, rfl⟩
  rw [hx] at m2 hba hbl hcase
  have e : s.call X.m (k : Int) = if newB x.args x.locs (s.take x.args.reverse).1.reverse = true ∧ (s.take x.args.reverse).2.frs.length ≤ 256 then { (s.take x.args.reverse).2 with frs := (s.take x.args.reverse).2.frs ++ [newFr x.args x.locs (s.take x.args.reverse).1.reverse], ms := (s.take x.args.reverse).2.ms ++ [k] } else (s.take x.args.reverse).2.cant := by
    unfold Mc.call
    rw [md.ml, hi, if_pos rfl, Int.toNat_natCast, List.getElem?_eq_getElem hk, hx]
  rw [e, if_pos hcase]
  have bw := h.bw
  have l0 : w0.heap.size ≤ W.heap.size := bw.size
  have mm := fun (j : Nat) v (hv : w0.cell? ⟨g, o + k * 8 + j, none⟩ = some v) => (bw.cell (p := ⟨g, o + k * 8 + j, none⟩) hgl).trans hv
  have m0 : W.cell? ⟨g, o + k * 8, none⟩ = some (.slice Aa na ca) := mm 0 _ m0
  have m1 := mm 1 _ m1
  have m2 := mm 2 _ m2
  have m3 := mm 3 _ m3
  have m4 := mm 4 _ m4
  have m5 := mm 5 _ m5
  have m6 := mm 6 _ m6
  have m7 := mm 7 _ m7
  have gl : g < W.heap.size := by omega
  have hal := hba.1
  have HBA := Lib.hid (And.intro hba hbl)
  have HIN : Hid (∀ V, Calls Try.prog 17 #[.int .i64 (k : Int), .int .i64 ((X.nm : Int) - 1)] V fun e V' => e = .returned (.bool true) ∧ V = V') := Lib.hid (fun V => by rw [← hi]; exact (in_any _ _ _).mono (fun _ _ h => ⟨h.1, h.2.symm⟩))
  have hkn : (k : Int) < (X.nm : Int) := by have := md.ml; omega
  obtain ⟨W1, t6, K1, hW1, ht6, R1, k6, k7, B6o, B7⟩ := first_two h #[.slice Aa na ca, .slice Al nl cl, .int .u8 x.res, .bool rd, .int .i64 y1, .int .i64 y2, .int .i64 y3, .slice Ac nc cc] 50 (madeCells #[.int .u8 0, .int .i64 0, .int .i64 0] (na * 3)) 29
  rw [madeCells_three] at B7
  have hn6 : W.heap.size ≤ t6 + 1 := by omega
  have hn6' : W.heap.size ≤ t6 := by omega
  obtain ⟨C8, hC8⟩ : ∃ C, [Value.slice Aa na ca, .slice Al nl cl, .int .u8 x.res, .bool rd, .int .i64 y1, .int .i64 y2, .int .i64 y3, .slice Ac nc cc] = C := ⟨_, rfl⟩
  have B6 : Blk W1 t6 C8 := by rw [← hC8]; exact B6o
  have hC0 : C8[0]? = some (.slice Aa na ca) := by rw [← hC8]; rfl
  have hC1 : C8[1]? = some (.slice Al nl cl) := by rw [← hC8]; rfl
  have HJ0 : Hid (CallJ w0 W K X rb fgs c s x.args t6 C8 0 W1) := Lib.hid ⟨K1, R1, k6, k7, B6, by
    show Blk W1 (t6 + 1) (vcs (List.replicate (x.args.length - 0) zv ++ []))
    rw [List.append_nil, Nat.sub_zero, hal]
    exact B7, fun v hv => by cases hv⟩
  have hmk : ∀ V : World, (Instr.makeSlice 22 (.int .i64 (na : Int)) (.int .i64 (na : Int))).run Try.prog V = .ok (.slice (some ⟨V.heap.size, 0, none⟩) na na) (V.alloc (.cells (madeCells #[.int .u8 0, .int .i64 0, .int .i64 0] (na * 3)) 29)) := by
    intro V
    obtain ⟨i2, hi2, hz0, hz1, hz2⟩ := fr_parts info37
    have := run_make (P := Try.prog) V 22 29 i2 _ Try.underlying22 hi2 hz0 .i64 .i64 na na (by omega) (Int.le_refl _) (by rw [hz2]; omega) (by omega)
    rw [hz1] at this
    simpa [Value.cells] using this
  have HE := Lib.hid (And.intro hW1 ht6)
  have c2 := h.c2
  rw [hmm] at c2
  have rl := h.rbl
  have HF := Lib.hid (And.intro hf (And.intro h.rk0 hcase))
  have hnm := md.nm
  have wn : IntKind.i64.wrap ((X.nm : Int) - 1) = (X.nm : Int) - 1 := IntWalk.i64_in _ (by omega)
  have HXL : Hid (x.args.length = na ∧ ∃ hk : k < X.m.mts.length, X.m.mts[k] = x) := Lib.hid ⟨hal, hk, hx⟩
  have HC0 := Lib.hid (And.intro hC0 hC1)
  have hna0 : 0 ≤ (na : Int) := by omega
  have hna20 : (na : Int) ≤ 20 := by omega
  clear h hf e hi hk md hx hal hba hbl bw mm R1 B6 B6o B7 hC8 hC0 hC1 hW1 ht6 k6 k7 hmm hcase hgl l0
  go_enter Try.func73, Try.ntmps73
  go_wp2_with fail
  refine (HIN.out _).mono ?_
  rintro e w2 ⟨rfl, rfl⟩
  go_wp2_with fail
  rw [HE.out.1, HE.out.2]
  clear m0 m1 m2 m3 m4 m5 m6 m7 HE hmk wn c2 rl
  go_loopw [8] (fun i wr => ∃ t : Nat, t ≤ na ∧ i = .int .i64 ((na : Int) - t - 1) ∧ CallJ w0 W K X rb fgs c s x.args t6 C8 t wr) (fun i _ => (intOf i + 1).toNat)
  case atStart => exact ⟨0, Nat.zero_le _, by go_num, HJ0.out⟩
  case round =>
    obtain ⟨t, htn, rfl, Kx, R, k6, k7, B6, B7, hv⟩ := hrel
    by_cases hlt : t < na
    · obtain ⟨j, hj⟩ : ∃ j, na = j + t + 1 := ⟨na - t - 1, by omega⟩
      have ej : (na : Int) - t - 1 = (j : Int) := by omega
      rw [ej]
      have hjl : j < x.args.length := by rw [HXL.out.1]; omega
      obtain ⟨ga, oa, eA, hga, hκ, hcell⟩ := (HBA.out.1.below R.r.bw).2 j hjl
      have HPP := Lib.hid (fun w2 p (hp : (s.take (x.args.reverse.take t)).2.pop (x.args[j]'hjl) = p) hpv hR => CallJ.next (w2 := w2) (by rw [HXL.out.1]; exact hj) hn6 R k6 k7 B6 B7 hv hp hpv hR)
      have HP := Lib.hid (pop_at R.r HF.out.1 x.args[j] hκ)
      have HPV := Lib.hid (pop_ok R.r HF.out.1 x.args[j])
      have b0 := B6.c 0 _ HC0.out.1
      rw [eA] at b0
      clear eA
      have b6l := B6.l
      obtain ⟨⟨⟨u0, u1, u2⟩, s2⟩, hp⟩ : ∃ p, (s.take (x.args.reverse.take t)).2.pop (x.args[j]'hjl) = p := ⟨_, rfl⟩
      rw [hp] at HP HPV
      have HPQ := Lib.hid (HPP.out · _ hp HPV.out)
      unfold vagg at HP
      dsimp only at HP
      generalize x.args[j] = κ at *
      have hj0 : 0 ≤ (j : Int) := by omega
      have hj1 : (j : Int) < (na : Int) := by omega
      have hj2 : (j : Int) ≤ 20 := by omega
      have HJJ := Lib.hid (And.intro hj hlt)
      clear hp HPP R k6 k7 B6 B7 hv hjl hj hlt hκ ej
      go_wp2_with fail
      refine HP.out.mono ?_
      rintro e w3 ⟨rfl, hR⟩
      obtain ⟨hJ, ⟨z0, z1, z2⟩, zf, zl⟩ := HPQ.out w3 hR
      have f0 := zf (j * 3)
      have f1 := zf (j * 3 + 1)
      have f2 := zf (j * 3 + 2)
      have HJ := Lib.hid hJ
      clear hR hJ zf HPQ HP b0
      go_wp2_with fail
      go_roundw
      case rel =>
        have hj := HJJ.out.1
        exact ⟨t + 1, by omega, by rw [show (na : Int) - ((t + 1 : Nat) : Int) - 1 = (j : Int) - 1 by omega], HJ.out⟩
      case measure => first | (simp [intOf]; done) | (simp [intOf]; omega)
    · obtain rfl : t = na := by omega
      have eA : x.args.reverse.take t = x.args.reverse := List.take_of_length_le (by rw [List.length_reverse, HXL.out.1]; exact Nat.le_refl _)
      rw [eA] at R B7 hv
      rw [HXL.out.1, Nat.sub_self, List.replicate_zero, List.nil_append] at B7
      have em : (t : Int) - t - 1 = -1 := by omega
      rw [em]
      have b0 := B6.c 0 _ HC0.out.1
      have b1 := B6.c 1 _ HC0.out.2
      have b6l := B6.l
      have hvl : (s.take x.args.reverse).1.reverse.length = t := by rw [List.length_reverse, take_vlen, List.length_reverse, HXL.out.1]
      have hA0 := HBA.out.1.below R.r.bw
      have hA1 := HBA.out.2.below R.r.bw
      have hA2 := vs_at B7 (fun v hv2 => hv v (List.mem_reverse.1 hv2))
      rw [hvl] at hA2
      obtain ⟨vs, hvs⟩ : ∃ l, (s.take x.args.reverse).1.reverse = l := ⟨_, rfl⟩
      obtain ⟨st, hst⟩ : ∃ l, (s.take x.args.reverse).2 = l := ⟨_, rfl⟩
      have HVS := Lib.hid (And.intro hvs hst)
      have HN := Lib.hid (fo_new wr Aa Al (some ⟨t6 + 1, 0, none⟩) t nl t ca cl t x.args x.locs _ hA0 hA1 hA2 (by omega) (by omega) (by omega) (by rw [← newB_iff]; exact HF.out.2.2.1))
      have HR := Lib.hid R
      clear R k6 k7 B6 B7 hv hA0 hA1 hA2 htn eA hvl hvs hst em hlt
      go_wp2_with fail
      refine HN.out.mono ?_
      rintro e w3 ⟨fg2, rfl, hFO⟩
      obtain ⟨Af0, cf0, c4, -⟩ := (HR.out.below hFO.bw).elim (fun K3 R3 => R3.1.r.frow)
      obtain ⟨K3, R3, kk3, kn3⟩ := HR.out.below hFO.bw
      have rl3 := R3.r.rbl
      have HLEN : Hid (fgs.length = (s.take x.args.reverse).2.frs.length) := Lib.hid R3.r.frl
      obtain ⟨n, hn⟩ : ∃ n, fgs.length = n := ⟨_, rfl⟩
      have hn256 : (n : Int) ≤ 256 := by have := HF.out.2.2.2; rw [← HLEN.out, hn] at this; omega
      rw [hn] at c4
      have HR3 := Lib.hid (And.intro hFO (And.intro hn (And.intro R3 (And.intro kk3 kn3))))
      clear hFO R3 hn kk3 kn3
      go_upto_region 11 with fail
      obtain ⟨hFO, hn, R3, kk3, kn3⟩ := HR3.out
      clear hn
      have hrb3 := R3.r.rbl
      have hflt := HF.out.2.2.2
      rw [← HLEN.out] at hflt
      have hmlt : (s.take x.args.reverse).2.ms.length ≤ 256 := by rw [R3.r.ok.ml, ← R3.r.frl]; exact hflt
      obtain ⟨own, Af, cf, Am, cm, gh, gw, Ag, cg, hI⟩ := R3.r
      obtain ⟨ia, hia, hia0, hia1, hia2⟩ := fr_parts info66
      obtain ⟨ib, hib, hib0, hib1, hib2⟩ := fr_parts info3
      refine wp_region_J (by kernel_rfl) (by kernel_rfl) (fun L a V => ∃ v0 v1 v2 v3 v4 v5 v6 v7 v8 v9 v10 v11 v12 v13 v14 v15 v16 v17 v18 v19, a = { tmps := #[Value.pointer (some { block := rb, off := 0 }), Value.pointer (some { block := fg, off := 0 }), Value.int IntKind.i64 ↑k, undef, undef, undef, Value.pointer (some { block := t6, off := 0 }), Value.slice (some { block := t6 + 1, off := 0 }) t t, Value.int IntKind.i64 (-1), Value.pointer (some { block := fg2, off := 0 }), Value.int IntKind.i64 0, Value.int IntKind.i64 ↑k, Value.pointer (some { block := rb, off := 0 }), Value.pointer (some { block := rb, off := 0 }), Value.pointer (some { block := rb, off := 0 }), Value.pointer (some { block := rb, off := 2 }), Value.slice (some { block := g, off := o }) X.nm X.cm, Value.int IntKind.i64 ↑X.nm, Value.int IntKind.i64 (↑X.nm - 1), Value.bool true, Value.bool false, undef, undef, Value.pointer (some { block := rb, off := 0 }), Value.pointer (some { block := rb, off := 0 }), Value.pointer (some { block := rb, off := 0 }), Value.pointer (some { block := rb, off := 2 }), Value.slice (some { block := g, off := o }) X.nm X.cm, Value.int IntKind.i64 ↑k, Value.pointer (some { block := g, off := o + k * 8 }), Value.agg #[Value.slice Aa t ca, Value.slice Al nl cl, Value.int IntKind.u8 x.res, Value.bool rd, Value.int IntKind.i64 y1, Value.int IntKind.i64 y2, Value.int IntKind.i64 y3, Value.slice Ac nc cc], Value.pointer (some { block := t6, off := 0 }), Value.slice Aa t ca, Value.int IntKind.i64 ↑t, Value.slice (some { block := t6 + 1, off := 0 }) t t, Value.slice (some { block := t6 + 1, off := 0 }) t t, Value.int IntKind.i64 ↑t, Value.int IntKind.i64 (↑t - 1), Value.int IntKind.i64 (-1), Value.bool false, u40, u41, u42, u43, u44, u45, u46, u47, u48, u49, u50, u51, u52, Value.tuple #[Value.pointer (some { block := fg2, off := 0 }), Value.int IntKind.i64 0], Value.pointer (some { block := t6, off := 0 }), Value.slice Aa t ca, Value.pointer (some { block := t6, off := 1 }), Value.slice Al nl cl, Value.slice (some { block := t6 + 1, off := 0 }) t t, Value.tuple #[Value.pointer (some { block := fg2, off := 0 }), Value.int IntKind.i64 0], Value.pointer (some { block := fg2, off := 0 }), Value.int IntKind.i64 0, Value.int IntKind.i64 0, Value.bool false, Value.bool false, Value.pointer (some { block := rb, off := 0 }), Value.pointer (some { block := rb, off := 0 }), Value.pointer (some { block := rb, off := 4 }), Value.slice Af0 n cf0, Value.int IntKind.i64 ↑n, Value.bool (decide ((256 : Int) < (n : Int))), Value.bool (decide ((256 : Int) < (n : Int))), undef, undef, v0, v1, v2, v3, v4, v5, v6, v7, v8, v9, v10, v11, v12, v13, v14, v15, v16, v17, v18, v19], defers := [] } ∧ GJ w3 X rb gh (.slice Ag (s.take x.args.reverse).2.gl.length cg) ((s.take x.args.reverse).2) (.slice Af fgs.length cf) (.slice Am (s.take x.args.reverse).2.ms.length cm) fgs.length (s.take x.args.reverse).2.ms.length (ptrs fgs) (ints (s.take x.args.reverse).2.ms) (.pointer (some ⟨fg2, 0, none⟩)) (.int .i64 (k : Int)) L v0 v1 v2 v3 v4 v5 v6 v7 v8 v9 v10 v11 v12 v13 v14 v15 v16 v17 v18 v19 V) ?_ ?_ ?_
      · exact ⟨undef, undef, undef, undef, undef, undef, undef, undef, undef, undef, undef, undef, undef, undef, undef, undef, undef, undef, undef, undef, rfl, GJ.start hI _ _⟩
      · intro L a V i o hJ hL ho hdep K' hK
        obtain ⟨v0, v1, v2, v3, v4, v5, v6, v7, v8, v9, v10, v11, v12, v13, v14, v15, v16, v17, v18, v19, rfl, h⟩ := hJ
        have HK := Lib.hid hK
        clear hK
        have hlen := (Array.getElem?_eq_some_iff.1 ho).1
        match i, ho, hL, hlen with
        | 0, ho, hL, _ =>
          obtain rfl := Option.some.inj ho
          clear ho
          clear hdep
          go_simp
          exact HK.out _ _ ⟨_, _, _, _, _, _, _, _, _, _, _, _, _, _, _, _, _, _, _, _, rfl, h.s0⟩
        | 1, ho, hL, _ =>
          obtain rfl := Option.some.inj ho
          clear ho
          clear hdep
          go_simp
          exact HK.out _ _ ⟨_, _, _, _, _, _, _, _, _, _, _, _, _, _, _, _, _, _, _, _, rfl, h.s1⟩
        | 2, ho, hL, _ =>
          obtain rfl := Option.some.inj ho
          clear ho
          clear hdep
          go_simp
          exact HK.out _ _ ⟨_, _, _, _, _, _, _, _, _, _, _, _, _, _, _, _, _, _, _, _, rfl, h.s2⟩
        | 3, ho, hL, _ =>
          obtain rfl := Option.some.inj ho
          clear ho
          have q2 : L 2 = true := hdep ⟨2, .data⟩ (by simp) rfl
          obtain rfl := h.t2 q2
          clear hdep
          go_simp
          exact HK.out _ _ ⟨_, _, _, _, _, _, _, _, _, _, _, _, _, _, _, _, _, _, _, _, rfl, h.s3⟩
        | 4, ho, hL, _ =>
          obtain rfl := Option.some.inj ho
          clear ho
          have q3 : L 3 = true := hdep ⟨3, .data⟩ (by simp) rfl
          obtain rfl := h.t3 q3
          clear hdep
          go_simp
          exact HK.out _ _ ⟨_, _, _, _, _, _, _, _, _, _, _, _, _, _, _, _, _, _, _, _, rfl, h.s4⟩
        | 5, ho, hL, _ =>
          obtain rfl := Option.some.inj ho
          clear ho
          have q4 : L 4 = true := hdep ⟨4, .data⟩ (by simp) rfl
          obtain rfl := h.t4 q4
          clear hdep
          have c4 := h.c4 hL
          go_simp
          exact HK.out _ _ ⟨_, _, _, _, _, _, _, _, _, _, _, _, _, _, _, _, _, _, _, _, rfl, h.s5⟩
        | 6, ho, hL, _ =>
          obtain rfl := Option.some.inj ho
          clear ho
          clear hdep
          go_simp
          exact HK.out _ _ ⟨_, _, _, _, _, _, _, _, _, _, _, _, _, _, _, _, _, _, _, _, rfl, h.s6⟩
        | 7, ho, hL, _ =>
          obtain rfl := Option.some.inj ho
          clear ho
          have q6 : L 6 = true := hdep ⟨6, .data⟩ (by simp) rfl
          obtain rfl := h.t6 q6
          clear hdep
          have hsz := h.t.size
          go_simp
          exact HK.out _ _ ⟨_, _, _, _, _, _, _, _, _, _, _, _, _, _, _, _, _, _, _, _, rfl, h.s7 hsz _⟩
        | 8, ho, hL, _ =>
          obtain rfl := Option.some.inj ho
          clear ho
          have q5 : L 5 = true := hdep ⟨5, .data⟩ (by simp) rfl
          have q7 : L 7 = true := hdep ⟨7, .data⟩ (by simp) rfl
          obtain rfl := h.t5 q5
          obtain ⟨bb, rfl, hbb, -, -⟩ := h.bF q7 hL
          clear hdep
          refine step_append_own rfl (.tmp 79) (.tmp 81) 54 rfl (rb + 1) 66 ia (.pointer none) 1 8 Try.underlying54 hia hia0 hia1 hia2 rfl (by decide) (.slice Af fgs.length cf) fgs.length (ptrs fgs) (by simp [Act.eval]) (h.rF hL) ⟨bb, 0, none⟩ 1 1 [.pointer (some ⟨fg2, 0, none⟩)] (by simp [Act.eval]) rfl (one_news hbb) (one_cell rfl) (by unfold maxLen; omega) (by omega) h.rbl ?_
          intro v' w' hown hgr hor
          exact HK.out _ _ ⟨_, _, _, _, _, _, _, _, _, _, _, _, _, _, _, _, _, _, _, _, rfl, h.s8 q5 hL hown hgr hor⟩
        | 9, ho, hL, _ =>
          obtain rfl := Option.some.inj ho
          clear ho
          clear hdep
          go_simp
          exact HK.out _ _ ⟨_, _, _, _, _, _, _, _, _, _, _, _, _, _, _, _, _, _, _, _, rfl, h.s9⟩
        | 10, ho, hL, _ =>
          obtain rfl := Option.some.inj ho
          clear ho
          have q9 : L 9 = true := hdep ⟨9, .data⟩ (by simp) rfl
          obtain rfl := h.t9 q9
          clear hdep
          go_simp
          exact HK.out _ _ ⟨_, _, _, _, _, _, _, _, _, _, _, _, _, _, _, _, _, _, _, _, rfl, h.s10⟩
        | 11, ho, hL, _ =>
          obtain rfl := Option.some.inj ho
          clear ho
          have q10 : L 10 = true := hdep ⟨10, .data⟩ (by simp) rfl
          obtain rfl := h.t10 q10
          clear hdep
          go_simp
          exact HK.out _ _ ⟨_, _, _, _, _, _, _, _, _, _, _, _, _, _, _, _, _, _, _, _, rfl, h.s11⟩
        | 12, ho, hL, _ =>
          obtain rfl := Option.some.inj ho
          clear ho
          have q11 : L 11 = true := hdep ⟨11, .data⟩ (by simp) rfl
          obtain rfl := h.t11 q11
          clear hdep
          have c5 := h.c5 hL
          go_simp
          exact HK.out _ _ ⟨_, _, _, _, _, _, _, _, _, _, _, _, _, _, _, _, _, _, _, _, rfl, h.s12⟩
        | 13, ho, hL, _ =>
          obtain rfl := Option.some.inj ho
          clear ho
          clear hdep
          go_simp
          exact HK.out _ _ ⟨_, _, _, _, _, _, _, _, _, _, _, _, _, _, _, _, _, _, _, _, rfl, h.s13⟩
        | 14, ho, hL, _ =>
          obtain rfl := Option.some.inj ho
          clear ho
          have q13 : L 13 = true := hdep ⟨13, .data⟩ (by simp) rfl
          obtain rfl := h.t13 q13
          clear hdep
          have hsz := h.t.size
          go_simp
          exact HK.out _ _ ⟨_, _, _, _, _, _, _, _, _, _, _, _, _, _, _, _, _, _, _, _, rfl, h.s14 hsz _⟩
        | 15, ho, hL, _ =>
          obtain rfl := Option.some.inj ho
          clear ho
          have q12 : L 12 = true := hdep ⟨12, .data⟩ (by simp) rfl
          have q14 : L 14 = true := hdep ⟨14, .data⟩ (by simp) rfl
          obtain rfl := h.t12 q12
          obtain ⟨bb, rfl, hbb, -, -⟩ := h.bM q14 hL
          clear hdep
          refine step_append_own rfl (.tmp 86) (.tmp 88) 55 rfl (rb + 1) 3 ib (.int .i64 0) 1 8 Try.underlying55 hib hib0 hib1 hib2 rfl (by decide) (.slice Am (s.take x.args.reverse).2.ms.length cm) (s.take x.args.reverse).2.ms.length (ints (s.take x.args.reverse).2.ms) (by simp [Act.eval]) (h.rM hL) ⟨bb, 0, none⟩ 1 1 [.int .i64 (k : Int)] (by simp [Act.eval]) rfl (one_news hbb) (one_cell rfl) (by unfold maxLen; omega) (by omega) h.rbl ?_
          intro v' w' hown hgr hor
          exact HK.out _ _ ⟨_, _, _, _, _, _, _, _, _, _, _, _, _, _, _, _, _, _, _, _, rfl, h.s15 q12 hL hown hgr hor⟩
        | 16, ho, hL, _ =>
          obtain rfl := Option.some.inj ho
          clear ho
          have q0 : L 0 = true := hdep ⟨0, .data⟩ (by simp) rfl
          obtain rfl := h.t0 q0
          clear hdep
          go_simp
          exact HK.out _ _ ⟨_, _, _, _, _, _, _, _, _, _, _, _, _, _, _, _, _, _, _, _, rfl, h.s16⟩
        | 17, ho, hL, _ =>
          obtain rfl := Option.some.inj ho
          clear ho
          have q16 : L 16 = true := hdep ⟨16, .data⟩ (by simp) rfl
          obtain rfl := h.t16 q16
          clear hdep
          go_simp
          exact HK.out _ _ ⟨_, _, _, _, _, _, _, _, _, _, _, _, _, _, _, _, _, _, _, _, rfl, h.s17⟩
        | 18, ho, hL, _ =>
          obtain rfl := Option.some.inj ho
          clear ho
          have q17 : L 17 = true := hdep ⟨17, .data⟩ (by simp) rfl
          have q8 : L 8 = true := hdep ⟨8, .data⟩ (by simp) rfl
          obtain rfl := h.t17 q17
          clear hdep
          obtain ⟨g9, cap9, rfl⟩ := row_some (h.rF' q8).1
          obtain ⟨e4, e5, eb, -⟩ := h.b
          have x4 := eb.c 4 _ rfl
          have x4f := eb.f 4
          have xl := eb.l
          have hs := h.s18 hrb3 q8
          have HS := Lib.hid hs
          clear hs eb h
          go_simp
          exact HK.out _ _ ⟨_, _, _, _, _, _, _, _, _, _, _, _, _, _, _, _, _, _, _, _, rfl, HS.out⟩
        | 19, ho, hL, _ =>
          obtain rfl := Option.some.inj ho
          clear ho
          have q1 : L 1 = true := hdep ⟨1, .data⟩ (by simp) rfl
          obtain rfl := h.t1 q1
          clear hdep
          go_simp
          exact HK.out _ _ ⟨_, _, _, _, _, _, _, _, _, _, _, _, _, _, _, _, _, _, _, _, rfl, h.s19⟩
        | 20, ho, hL, _ =>
          obtain rfl := Option.some.inj ho
          clear ho
          have q19 : L 19 = true := hdep ⟨19, .data⟩ (by simp) rfl
          obtain rfl := h.t19 q19
          clear hdep
          go_simp
          exact HK.out _ _ ⟨_, _, _, _, _, _, _, _, _, _, _, _, _, _, _, _, _, _, _, _, rfl, h.s20⟩
        | 21, ho, hL, _ =>
          obtain rfl := Option.some.inj ho
          clear ho
          have q20 : L 20 = true := hdep ⟨20, .data⟩ (by simp) rfl
          have q15 : L 15 = true := hdep ⟨15, .data⟩ (by simp) rfl
          obtain rfl := h.t20 q20
          clear hdep
          obtain ⟨g9, cap9, rfl⟩ := row_some (h.rM' q15).1
          obtain ⟨e4, e5, eb, -⟩ := h.b
          have x4 := eb.c 5 _ rfl
          have x4f := eb.f 5
          have xl := eb.l
          have hs := h.s21 hrb3 q15
          have HS := Lib.hid hs
          clear hs eb h
          go_simp
          exact HK.out _ _ ⟨_, _, _, _, _, _, _, _, _, _, _, _, _, _, _, _, _, _, _, _, rfl, HS.out⟩
        | _ + 22, ho, hL, hlen => exact absurd hlen (by simp)
      · intro L a V hJ hall
        obtain ⟨v0, v1, v2, v3, v4, v5, v6, v7, v8, v9, v10, v11, v12, v13, v14, v15, v16, v17, v18, v19, rfl, h⟩ := hJ
        have FIN : Hid (RunK w0 W X rb (fgs ++ [fg2]) c { (s.take x.args.reverse).2 with frs := (s.take x.args.reverse).2.frs ++ [newFr x.args x.locs (s.take x.args.reverse).1.reverse], ms := (s.take x.args.reverse).2.ms ++ [k] } K V) := Lib.hid (by
          have q : ∀ i, i < 22 → L i = true := fun i hi => hall i hi
          obtain ⟨e4, e5, eb, -, r4, -, r5⟩ := h.b
          rw [r4 (q 18 (by omega)), r5 (q 21 (by omega))] at eb
          have hrF := h.rF' (q 8 (by omega))
          have hrM := h.rM' (q 15 (by omega))
          have hne := h.ne
          rw [if_pos (q 8 (by omega)), if_pos (q 15 (by omega))] at hne
          have hz := HR.out
          have hbw := hz.r.bw
          have hxk := HXL.out.2.elim (fun h _ => h)
          have hF2 : FO w0 w3 fg2 0 (newFr x.args x.locs (s.take x.args.reverse).1.reverse) (fun b => b < w3.heap.size ∧ ¬ (wr.heap.size ≤ b ∧ b < w3.heap.size)) := by
            refine (hFO.less ?_).base hbw
            rintro b ⟨h1, h2⟩
            have h2 : ¬ (wr.heap.size ≤ b ∧ b < w3.heap.size) := h2
            omega
          have hG := hI.grow (K0 := K) hF2 (fun b h1 h2 => (hI.kk b (kn3 b h1 h2)).2) hbw.size (Nat.le_refl _) (fun b hb => ⟨R3.k b hb, fun hp => by have := hz.n b hb; have := hz.t.size; omega⟩) (by rw [← R3.r.frl]; exact hflt) hxk h.t eb hrF.1 hrF.2 hrM.1 hrM.2 hne
          exact ⟨hG.1, R3.t.trans' hG.2 (fun b _ e => e)⟩)
        clear h hall
        dsimp only
        go_wp2_with fail
        go_end0
        exact ⟨rfl, _, FIN.out, _, ⟨_, rfl⟩⟩
end
#print axioms call_ok
end Go.Proofs.Ytkhgpeejmbfmjaa
/- The run in memory: call, turn. -/
namespace Go.Proofs.Ytkhgpeejmbfmjaa
open Go.RowKit
set_option linter.unusedSimpArgs false
set_option linter.unusedVariables false
set_option maxRecDepth 100000
section
variable {w0 W : World} {X : Sx} {rb : Nat} {fgs : List Nat} {c : Nat} {s : Mc} {K : Nat → Prop} {fg : Nat}

theorem call_at (h : RunAt w0 W X rb fgs c s K) (hf : Topf fgs fg) (i : Int) : Calls Try.prog 73 #[.pointer (some ⟨rb, 0, none⟩), .pointer (some ⟨fg, 0, none⟩), .int .i64 i] W fun e W' => e = .returned (.tuple #[]) ∧ ∃ fgs', RunK w0 W X rb fgs' c (s.call X.m i) K W' ∧ ∃ fg', Topf fgs' fg' := by
  cases hi : inB i ((X.nm : Int) - 1) with
  | false => exact call_no h hf i hi
  | true =>
    obtain ⟨k, rfl, hk⟩ := inB_nat hi
    have hk2 : k < X.m.mts.length := by rw [h.md0.ml]; exact hk
    cases hb : newB X.m.mts[k].args X.m.mts[k].locs (s.take X.m.mts[k].args.reverse).1.reverse with
    | false => exact call_bad h hf k hk2 hi hb
    | true =>
      by_cases hl : (s.take X.m.mts[k].args.reverse).2.frs.length ≤ 256
      · exact call_ok h hf k hk2 hi ⟨hb, hl⟩
      · exact call_many h hf k hk2 hi ⟨hb, hl⟩
theorem RunAt.mono (h : RunAt w0 W X rb fgs c s K) {c' : Nat} (hc : c ≤ c') (hc2 : c' ≤ 25000) : RunAt w0 W X rb fgs c' s K := by
  obtain ⟨own, Af, cf, Am, cm, gh, gw, Ag, cg, h⟩ := h
  exact ⟨own, Af, cf, Am, cm, gh, gw, Ag, cg, { h with fr := fun i hi hi' => (h.fr i hi hi').mono hc, ok := { h.ok with hl := Nat.le_trans h.ok.hl hc, cl := hc2 } }⟩
theorem RunK.mono {W1 : World} (h : RunK w0 W X rb fgs c s K W1) {c' : Nat} (hc : c ≤ c') (hc2 : c' ≤ 25000) : RunK w0 W X rb fgs c' s K W1 := ⟨h.1.mono hc hc2, h.2⟩
theorem RunAt.turns (h : RunAt w0 W X rb fgs c s K) (hf : Topf fgs fg) (l : Int) : 0 ≤ s.top.turns l := by
  obtain ⟨KF, h1, -⟩ := h.top hf
  obtain ⟨base, gm, nm, A, cap, h0, -⟩ := h1.ex
  exact (h0.tw l).1
/-- What an instruction may leave. -/
def Left (w0 W : World) (X : Sx) (rb c : Nat) (s : Mc) (K : Nat → Prop) (W' : World) : Prop := ∃ fgs', RunK w0 W X rb fgs' (c + 1) s K W' ∧ Lv fgs' s
theorem left_of {W1 : World} (h : RunK w0 W X rb fgs c s K W1) (hc : c < 25000) (hf : Topf fgs fg) : Left w0 W X rb c s K W1 := ⟨fgs, h.mono (by omega) (by omega), .inr ⟨fg, hf⟩⟩
theorem left_of' {W1 : World} (h : RunK w0 W X rb fgs (c + 1) s K W1) (hf : Topf fgs fg) : Left w0 W X rb c s K W1 := ⟨fgs, h, .inr ⟨fg, hf⟩⟩

theorem turn_26 (h : RunAt w0 W X rb fgs c s K) (hf : Topf fgs fg) (a b p : Int) (ha : I64 a) (hp : I64 p) (hc : c < 25000) : Calls Try.prog 48 #[.pointer (some ⟨rb, 0, none⟩), .pointer (some ⟨fg, 0, none⟩), .agg #[.int .u8 26, .int .i64 a, .int .i64 b], .int .i64 p] W fun e W' => e = .returned (.tuple #[]) ∧ Left w0 W X rb c (s.turn X.m 26 a p) K W' := by
  obtain ⟨W1, t6, K1, hW1, ht6, R1, k6, B6, -⟩ := first_block h #[.int .u8 26, .int .i64 a, .int .i64 b] 46
  have HF := Lib.hid (And.intro hf hc)
  have HE := Lib.hid (And.intro hW1 ht6)
  have b0 := B6.c 0 _ rfl
  have b1 := B6.c 1 _ rfl
  have b2 := B6.c 2 _ rfl
  have lb := B6.l
  show Calls Try.prog 48 _ W fun e W' => e = .returned (.tuple #[]) ∧ Left w0 W X rb c (s.upd (goF s.top a)) K W'
  have HP := Lib.hid (r_go R1.r hf a)
  have HR := Lib.hid R1
  clear h hf ha hp hc R1 k6 B6 hW1 ht6
  go_enter Try.func48, Try.ntmps48
  go_wp2_with fail
  rw [HE.out.1, HE.out.2]
  clear HE
  go_wp2_with fail
  refine HP.out.mono ?_
  rintro e w2 ⟨rfl, hR⟩
  have HB := Lib.hid (left_of (HR.out.call hR).done HF.out.2 HF.out.1)
  clear hR HR
  go_wp2_with fail
  go_end0
  exact ⟨rfl, HB.out⟩

theorem turn_27 (h : RunAt w0 W X rb fgs c s K) (hf : Topf fgs fg) (a b p : Int) (ha : I64 a) (hp : I64 p) (hc : c < 25000) : Calls Try.prog 48 #[.pointer (some ⟨rb, 0, none⟩), .pointer (some ⟨fg, 0, none⟩), .agg #[.int .u8 27, .int .i64 a, .int .i64 b], .int .i64 p] W fun e W' => e = .returned (.tuple #[]) ∧ Left w0 W X rb c (s.turn X.m 27 a p) K W' := by
  obtain ⟨W1, t6, K1, hW1, ht6, R1, k6, B6, -⟩ := first_block h #[.int .u8 27, .int .i64 a, .int .i64 b] 46
  have HF := Lib.hid (And.intro hf hc)
  have HE := Lib.hid (And.intro hW1 ht6)
  have b0 := B6.c 0 _ rfl
  have b1 := B6.c 1 _ rfl
  have b2 := B6.c 2 _ rfl
  have lb := B6.l
  show Calls Try.prog 48 _ W fun e W' => e = .returned (.tuple #[]) ∧ Left w0 W X rb c (if s.number.1 = 0 then s.number.2.upd (goF s.number.2.top a) else s.number.2) K W'
  have HP := Lib.hid (number_at R1.r hf)
  have HR := Lib.hid (And.intro R1 (And.intro k6 B6))
  generalize s.number = q at *
  obtain ⟨n, s1⟩ := q
  dsimp only at *
  clear h hf ha hp hc R1 k6 B6 hW1 ht6
  by_cases hn : n = 0
  · rw [if_pos hn]
    subst hn
    go_enter Try.func48, Try.ntmps48
    go_wp2_with fail
    rw [HE.out.1, HE.out.2]
    clear HE
    go_wp2_with fail
    refine HP.out.mono ?_
    rintro e w2 ⟨rfl, hR⟩
    obtain ⟨R1, k6, B6⟩ := HR.out
    have R2 := R1.call hR
    have B62 := B6.keep hR.2 k6
    have d1 := B62.c 1 _ rfl
    have dl := B62.l
    have HC := Lib.hid (r_go R2.r HF.out.1 a)
    have HR2 := Lib.hid R2
    clear hR R1 k6 B6 R2 B62 HR
    go_wp2_with fail
    refine HC.out.mono ?_
    rintro e w3 ⟨rfl, hR⟩
    have HB := Lib.hid (left_of (HR2.out.call hR).done HF.out.2 HF.out.1)
    clear hR HR2
    go_wp2_with fail
    go_end0
    exact ⟨rfl, HB.out⟩
  · rw [if_neg hn]
    have hq : (n == 0) = false := by rw [beq_eq_false_iff_ne]; exact hn
    clear hn
    go_enter Try.func48, Try.ntmps48
    go_wp2_with fail
    rw [HE.out.1, HE.out.2]
    clear HE
    go_wp2_with fail
    refine HP.out.mono ?_
    rintro e w2 ⟨rfl, hR⟩
    have HB := Lib.hid (left_of (HR.out.1.call hR).done HF.out.2 HF.out.1)
    clear hR HR
    go_wp2_with fail
    go_end0
    exact ⟨rfl, HB.out⟩

theorem turn_28 (h : RunAt w0 W X rb fgs c s K) (hf : Topf fgs fg) (a b p : Int) (ha : I64 a) (hp : I64 p) (hc : c < 25000) : Calls Try.prog 48 #[.pointer (some ⟨rb, 0, none⟩), .pointer (some ⟨fg, 0, none⟩), .agg #[.int .u8 28, .int .i64 a, .int .i64 b], .int .i64 p] W fun e W' => e = .returned (.tuple #[]) ∧ Left w0 W X rb c (s.turn X.m 28 a p) K W' := by
  obtain ⟨W1, t6, K1, hW1, ht6, R1, k6, B6, -⟩ := first_block h #[.int .u8 28, .int .i64 a, .int .i64 b] 46
  have HF := Lib.hid (And.intro hf hc)
  have HE := Lib.hid (And.intro hW1 ht6)
  have b0 := B6.c 0 _ rfl
  have b1 := B6.c 1 _ rfl
  have b2 := B6.c 2 _ rfl
  have lb := B6.l
  show Calls Try.prog 48 _ W fun e W' => e = .returned (.tuple #[]) ∧ Left w0 W X rb c (s.upd (begF s.top p a)) K W'
  have HP := Lib.hid (r_begin R1.r hf p a hp ha hc)
  have HR := Lib.hid R1
  clear h hf ha hp hc R1 k6 B6 hW1 ht6
  go_enter Try.func48, Try.ntmps48
  go_wp2_with fail
  rw [HE.out.1, HE.out.2]
  clear HE
  go_wp2_with fail
  refine HP.out.mono ?_
  rintro e w2 ⟨rfl, hR⟩
  have HB := Lib.hid (left_of' (HR.out.call hR).done HF.out.1)
  clear hR HR
  go_wp2_with fail
  go_end0
  exact ⟨rfl, HB.out⟩

theorem turn_29 (h : RunAt w0 W X rb fgs c s K) (hf : Topf fgs fg) (a b p : Int) (ha : I64 a) (hp : I64 p) (hc : c < 25000) : Calls Try.prog 48 #[.pointer (some ⟨rb, 0, none⟩), .pointer (some ⟨fg, 0, none⟩), .agg #[.int .u8 29, .int .i64 a, .int .i64 b], .int .i64 p] W fun e W' => e = .returned (.tuple #[]) ∧ Left w0 W X rb c (s.turn X.m 29 a p) K W' := by
  obtain ⟨W1, t6, K1, hW1, ht6, R1, k6, B6, -⟩ := first_block h #[.int .u8 29, .int .i64 a, .int .i64 b] 46
  have HF := Lib.hid (And.intro hf hc)
  have HE := Lib.hid (And.intro hW1 ht6)
  have b0 := B6.c 0 _ rfl
  have b1 := B6.c 1 _ rfl
  have b2 := B6.c 2 _ rfl
  have lb := B6.l
  have ht := R1.r.turns hf a
  have e : s.turn X.m 29 a p = if 0 < s.top.turns a then (if 1 < s.top.turns a then (s.upd (agaF s.top a)).upd (goF (s.upd (agaF s.top a)).top (wrap64 (a + 1))) else s.upd (agaF s.top a)) else (s.upd (agaF s.top a)).cant := by
    show (let is := decide (s.top.turns a ≠ 0); let more := is && decide (0 < s.top.turns a - 1); let u := s.upd (agaF s.top a); let t := if is then u else u.cant; if more then t.upd (goF t.top (wrap64 (a + 1))) else t) = _
    by_cases h0 : 0 < s.top.turns a
    · have e0 : decide (s.top.turns a ≠ 0) = true := decide_eq_true (by omega)
      by_cases h1 : 1 < s.top.turns a
      · have e1 : decide (0 < s.top.turns a - 1) = true := decide_eq_true (by omega)
        simp only [e0, e1, if_pos h0, if_pos h1, Bool.and_self, if_true]
      · have e1 : decide (0 < s.top.turns a - 1) = false := decide_eq_false (by omega)
        simp only [e0, e1, if_pos h0, if_neg h1, Bool.and_false, if_true]
        rfl
    · have e0 : decide (s.top.turns a ≠ 0) = false := decide_eq_false (by omega)
      simp only [e0, if_neg h0, Bool.false_and]
      rfl
  rw [e]
  have HP := Lib.hid (r_again R1.r hf a ha hc)
  have HR := Lib.hid (And.intro R1 (And.intro k6 B6))
  generalize s.upd (agaF s.top a) = s1 at *
  generalize s.top.turns a = m at *
  clear h hf ha hp hc R1 k6 B6 hW1 ht6 ht e
  by_cases h0 : 0 < m
  · rw [if_pos h0]
    by_cases h1 : 1 < m
    · rw [if_pos h1]
      rw [decide_eq_true h0, decide_eq_true h1] at HP
      clear h0 h1
      go_enter Try.func48, Try.ntmps48
      go_wp2_with fail
      rw [HE.out.1, HE.out.2]
      clear HE
      go_wp2_with fail
      refine HP.out.mono ?_
      rintro e w2 ⟨rfl, hR⟩
      obtain ⟨R1, k6, B6⟩ := HR.out
      have R2 := R1.call hR
      have B62 := B6.keep hR.2 k6
      have d1 := B62.c 1 _ rfl
      have dl := B62.l
      have HC := Lib.hid (r_go R2.r HF.out.1 (wrap64 (a + 1)))
      have HR2 := Lib.hid R2
      clear hR R1 k6 B6 R2 B62 HR
      go_wp2_with fail
      refine HC.out.mono ?_
      rintro e w3 ⟨rfl, hR⟩
      have HB := Lib.hid (left_of' (HR2.out.call hR).done HF.out.1)
      clear hR HR2
      go_wp2_with fail
      go_end0
      exact ⟨rfl, HB.out⟩
    · rw [if_neg h1]
      rw [decide_eq_true h0, decide_eq_false h1] at HP
      clear h0 h1
      go_enter Try.func48, Try.ntmps48
      go_wp2_with fail
      rw [HE.out.1, HE.out.2]
      clear HE
      go_wp2_with fail
      refine HP.out.mono ?_
      rintro e w2 ⟨rfl, hR⟩
      have HB := Lib.hid (left_of' (HR.out.1.call hR).done HF.out.1)
      clear hR HR
      go_wp2_with fail
      go_end0
      exact ⟨rfl, HB.out⟩
  · rw [if_neg h0]
    rw [decide_eq_false h0, decide_eq_false (show ¬ 1 < m by omega)] at HP
    clear h0
    go_enter Try.func48, Try.ntmps48
    go_wp2_with fail
    rw [HE.out.1, HE.out.2]
    clear HE
    go_wp2_with fail
    refine HP.out.mono ?_
    rintro e w2 ⟨rfl, hR⟩
    have R2 := HR.out.1.call hR
    have HC := Lib.hid (cant_at R2.r)
    have HR2 := Lib.hid R2
    clear hR R2 HR
    go_wp2_with fail
    refine HC.out.mono ?_
    rintro e w3 ⟨rfl, hR⟩
    have HB := Lib.hid (left_of' (HR2.out.call hR).done HF.out.1)
    clear hR HR2
    go_wp2_with fail
    go_end0
    exact ⟨rfl, HB.out⟩

theorem turn_30 (h : RunAt w0 W X rb fgs c s K) (hf : Topf fgs fg) (a b p : Int) (ha : I64 a) (hp : I64 p) (hc : c < 25000) : Calls Try.prog 48 #[.pointer (some ⟨rb, 0, none⟩), .pointer (some ⟨fg, 0, none⟩), .agg #[.int .u8 30, .int .i64 a, .int .i64 b], .int .i64 p] W fun e W' => e = .returned (.tuple #[]) ∧ Left w0 W X rb c (s.turn X.m 30 a p) K W' := by
  obtain ⟨W1, t6, K1, hW1, ht6, R1, k6, B6, -⟩ := first_block h #[.int .u8 30, .int .i64 a, .int .i64 b] 46
  have HF := Lib.hid (And.intro hf hc)
  have HE := Lib.hid (And.intro hW1 ht6)
  have b0 := B6.c 0 _ rfl
  have b1 := B6.c 1 _ rfl
  have b2 := B6.c 2 _ rfl
  have lb := B6.l
  show Calls Try.prog 48 _ W fun e W' => e = .returned (.tuple #[]) ∧ Left w0 W X rb c (s.call X.m a) K W'
  have HP := Lib.hid (call_at R1.r hf a)
  have HR := Lib.hid R1
  clear h hf ha hp hc R1 k6 B6 hW1 ht6
  go_enter Try.func48, Try.ntmps48
  go_wp2_with fail
  rw [HE.out.1, HE.out.2]
  clear HE
  go_wp2_with fail
  refine HP.out.mono ?_
  rintro e w2 ⟨rfl, fgs', hR, fg', hf'⟩
  have HB := Lib.hid (left_of (HR.out.call hR).done HF.out.2 hf')
  clear hR HR
  go_wp2_with fail
  go_end0
  exact ⟨rfl, HB.out⟩

theorem turn_31 (h : RunAt w0 W X rb fgs c s K) (hf : Topf fgs fg) (a b p : Int) (ha : I64 a) (hp : I64 p) (hc : c < 25000) : Calls Try.prog 48 #[.pointer (some ⟨rb, 0, none⟩), .pointer (some ⟨fg, 0, none⟩), .agg #[.int .u8 31, .int .i64 a, .int .i64 b], .int .i64 p] W fun e W' => e = .returned (.tuple #[]) ∧ Left w0 W X rb c (s.turn X.m 31 a p) K W' := by
  obtain ⟨W1, t6, K1, hW1, ht6, R1, k6, B6, -⟩ := first_block h #[.int .u8 31, .int .i64 a, .int .i64 b] 46
  have HF := Lib.hid (And.intro hf hc)
  have HE := Lib.hid (And.intro hW1 ht6)
  have b0 := B6.c 0 _ rfl
  have b1 := B6.c 1 _ rfl
  have b2 := B6.c 2 _ rfl
  have lb := B6.l
  show Calls Try.prog 48 _ W fun e W' => e = .returned (.tuple #[]) ∧ Left w0 W X rb c (s.ret X.m) K W'
  have HP := Lib.hid (ret_at R1.r hf)
  have HR := Lib.hid R1
  clear h hf ha hp hc R1 k6 B6 hW1 ht6
  go_enter Try.func48, Try.ntmps48
  go_wp2_with fail
  rw [HE.out.1, HE.out.2]
  clear HE
  go_wp2_with fail
  refine HP.out.mono ?_
  rintro e w2 ⟨rfl, fgs', hR, hl⟩
  have HB : Hid (Left w0 W X rb c (s.ret X.m) K w2) := Lib.hid ⟨fgs', (HR.out.call hR).done.mono (by omega) (by have := HF.out.2; omega), hl⟩
  clear hR HR
  go_wp2_with fail
  go_end0
  exact ⟨rfl, HB.out⟩

theorem turn_o (h : RunAt w0 W X rb fgs c s K) (hf : Topf fgs fg) (op a b p : Int) (ha : I64 a) (hp : I64 p) (hc : c < 25000) (hop : op < 26 ∨ 31 < op) : Calls Try.prog 48 #[.pointer (some ⟨rb, 0, none⟩), .pointer (some ⟨fg, 0, none⟩), .agg #[.int .u8 op, .int .i64 a, .int .i64 b], .int .i64 p] W fun e W' => e = .returned (.tuple #[]) ∧ Left w0 W X rb c (s.turn X.m op a p) K W' := by
  obtain ⟨W1, t6, K1, hW1, ht6, R1, k6, B6, -⟩ := first_block h #[.int .u8 op, .int .i64 a, .int .i64 b] 46
  have HF := Lib.hid (And.intro hf hc)
  have HE := Lib.hid (And.intro hW1 ht6)
  have b0 := B6.c 0 _ rfl
  have b1 := B6.c 1 _ rfl
  have b2 := B6.c 2 _ rfl
  have lb := B6.l
  have e : s.turn X.m op a p = s.cant := by
    unfold Mc.turn
    rw [if_neg (by omega), if_neg (by omega), if_neg (by omega), if_neg (by omega), if_neg (by omega), if_neg (by omega)]
  rw [e]
  have q26 : (op == 26) = false := by rw [beq_eq_false_iff_ne]; omega
  have q27 : (op == 27) = false := by rw [beq_eq_false_iff_ne]; omega
  have q28 : (op == 28) = false := by rw [beq_eq_false_iff_ne]; omega
  have q29 : (op == 29) = false := by rw [beq_eq_false_iff_ne]; omega
  have q30 : (op == 30) = false := by rw [beq_eq_false_iff_ne]; omega
  have q31 : (op == 31) = false := by rw [beq_eq_false_iff_ne]; omega
  have HP := Lib.hid (cant_at R1.r)
  have HR := Lib.hid R1
  clear h hf ha hp hc R1 k6 B6 hW1 ht6 e hop
  go_enter Try.func48, Try.ntmps48
  go_wp2_with fail
  rw [HE.out.1, HE.out.2]
  clear HE
  go_wp2_with fail
  refine HP.out.mono ?_
  rintro e w2 ⟨rfl, hR⟩
  have HB := Lib.hid (left_of (HR.out.call hR).done HF.out.2 HF.out.1)
  clear hR HR
  go_wp2_with fail
  go_end0
  exact ⟨rfl, HB.out⟩

theorem turn_at (h : RunAt w0 W X rb fgs c s K) (hf : Topf fgs fg) (op a b p : Int) (ha : I64 a) (hp : I64 p) (hc : c < 25000) : Calls Try.prog 48 #[.pointer (some ⟨rb, 0, none⟩), .pointer (some ⟨fg, 0, none⟩), .agg #[.int .u8 op, .int .i64 a, .int .i64 b], .int .i64 p] W fun e W' => e = .returned (.tuple #[]) ∧ Left w0 W X rb c (s.turn X.m op a p) K W' := by
  by_cases hop : op < 26 ∨ 31 < op
  · exact turn_o h hf op a b p ha hp hc hop
  · have h6 : op = 26 ∨ op = 27 ∨ op = 28 ∨ op = 29 ∨ op = 30 ∨ op = 31 := by omega
    rcases h6 with rfl | rfl | rfl | rfl | rfl | rfl
    · exact turn_26 h hf a b p ha hp hc
    · exact turn_27 h hf a b p ha hp hc
    · exact turn_28 h hf a b p ha hp hc
    · exact turn_29 h hf a b p ha hp hc
    · exact turn_30 h hf a b p ha hp hc
    · exact turn_31 h hf a b p ha hp hc
end
#print axioms turn_31
#print axioms turn_o
#print axioms turn_at
end Go.Proofs.Ytkhgpeejmbfmjaa
