/- MemPlays: the document's accesses that write, Published, each by one contract. -/
import Derived.Test.YthllfeogchbihacMemW
namespace Go.Proofs.Ythllfeogchbihac
open Go.RowKit
set_option linter.unusedSimpArgs false
set_option linter.unusedVariables false
section
variable {W : World} {rg ag bg cg dg : Nat} {R : Me}
set_option maxRecDepth 100000 in
theorem r_publ (h : RAt W rg ag bg cg dg R) (p q : Int) : Calls Try.prog 39 #[.pointer (some ⟨rg, 0, none⟩), .int .i64 p, .int .i64 q] W fun e W' => e = .returned (.tuple #[.int .i64 (if (hasB R.pr.length p && hasB R.pr.length q) then (R.proc q).pos else 0), .bool (hasB R.pr.length p && hasB R.pr.length q)]) ∧ Touch (RF rg ag bg cg dg) W W' ∧ RAt W' rg ag bg cg dg (if (hasB R.pr.length p && hasB R.pr.length q) = true then R.tick p.toNat else R) := by
  have H46 := Lib.hid (r_has h q)
  have hst := r_step h p (hasB R.pr.length q)
  cases hc : (hasB R.pr.length p && hasB R.pr.length q) with
  | false =>
    rw [hc, if_neg Bool.false_ne_true] at hst
    rw [if_neg (by decide), if_neg (by decide)]
    have HST := Lib.hid hst
    clear hst h hc
    go_enter Try.func39, Try.ntmps39
    go_wp2_with fail
    refine H46.out.mono ?_
    rintro e wq ⟨rfl, rfl⟩
    go_wp2_with fail
    refine HST.out.mono ?_
    rintro e w1 ⟨rfl, t1, h1⟩
    have HF := Lib.hid (And.intro t1 h1)
    clear t1 h1
    go_wp2_with fail
    go_ret2
    exact ⟨rfl, HF.out⟩
  | true =>
    rw [hc, if_pos rfl] at hst
    rw [if_pos rfl, if_pos rfl]
    have hc2 := hc
    rw [Bool.and_eq_true] at hc2
    obtain ⟨i, rfl, hi⟩ := hasB_yes hc2.1
    obtain ⟨j, rfl, hj⟩ := hasB_yes hc2.2
    clear hc2
    rw [Int.toNat_natCast] at hst ⊢
    have HST := Lib.hid hst
    obtain ⟨x, hx⟩ : ∃ x, (R.proc (j : Int)).pos = x := ⟨_, rfl⟩
    have HCELL : Hid (∀ w1, RAt w1 rg ag bg cg dg (R.tick i) → w1.cell? ⟨bg, j, none⟩ = some (.int .i64 x) ∧ w1.cell? ⟨rg, 1, none⟩ = some (.slice (some ⟨bg, 0, none⟩) R.pr.length R.pr.length) ∧ bg < w1.heap.size) := Lib.hid (fun w1 h1 => by
      have e := tick_pos R (i := i) hj
      rw [Me.proc_yes (M := R.tick i) (by rw [tick_len]; exact hj), hx] at e
      have a := h1.bcell (i := j) (by rw [tick_len]; exact hj)
      rw [e] at a
      exact ⟨a, by have := h1.br.c 1 _ rfl; rw [tick_len] at this; exact this, h1.bb.l⟩)
    rw [hx]
    have lpp := h.lp
    have i1 : (j : Int) < (R.pr.length : Int) := by omega
    clear hst h hc hx
    generalize R.tick i = R1 at *
    generalize R.pr.length = n at *
    go_enter Try.func39, Try.ntmps39
    go_wp2_with fail
    refine H46.out.mono ?_
    rintro e wq ⟨rfl, rfl⟩
    go_wp2_with fail
    refine HST.out.mono ?_
    rintro e w1 ⟨rfl, t1, h1⟩
    obtain ⟨a, c1, cl⟩ := HCELL.out w1 h1
    have rl := h1.br.l
    have HF := Lib.hid (And.intro t1 h1)
    clear t1 h1
    go_wp2_with fail
    go_ret2
    exact ⟨rfl, HF.out⟩
set_option maxRecDepth 100000 in
theorem r_pub (h : RAt W rg ag bg cg dg R) (p n : Int) : Calls Try.prog 38 #[.pointer (some ⟨rg, 0, none⟩), .int .i64 p, .int .i64 n] W fun e W' => e = .returned (.bool (hasB R.pr.length p)) ∧ Touch (RF rg ag bg cg dg) W W' ∧ RAt W' rg ag bg cg dg (if hasB R.pr.length p = true then (R.pub p.toNat n).tick p.toNat else R) := by
  have hst := r_step h p true
  simp only [Bool.and_true] at hst
  cases hc : hasB R.pr.length p with
  | false =>
    rw [hc, if_neg Bool.false_ne_true] at hst
    rw [if_neg Bool.false_ne_true]
    have HST := Lib.hid hst
    clear hst h hc
    go_enter Try.func38, Try.ntmps38
    go_wp2_with fail
    refine HST.out.mono ?_
    rintro e w1 ⟨rfl, t1, h1⟩
    have HF := Lib.hid (And.intro t1 h1)
    clear t1 h1
    go_wp2_with fail
    go_ret
    exact ⟨rfl, HF.out⟩
  | true =>
    rw [hc, if_pos rfl] at hst
    rw [if_pos rfl]
    obtain ⟨i, rfl, hi⟩ := hasB_yes hc
    rw [Int.toNat_natCast] at hst ⊢
    have HST := Lib.hid hst
    have HFIN : Hid (∀ w1, Touch (RF rg ag bg cg dg) W w1 → RAt w1 rg ag bg cg dg (R.tick i) → Touch (RF rg ag bg cg dg) W (w1.setCell ⟨bg, i, none⟩ (.int .i64 n)) ∧ RAt (w1.setCell ⟨bg, i, none⟩ (.int .i64 n)) rg ag bg cg dg ((R.pub i n).tick i)) := Lib.hid (fun w1 t1 h1 => by
      refine ⟨t1.setCell _ _ (fun _ => .inr (.inr (.inl rfl))), ?_⟩
      have hl : i < (R.tick i).pr.length := by rw [tick_len]; exact hi
      have := h1.bset hl n
      rw [← pub_tick R hi n]
      unfold Me.pub
      rw [Me.proc_yes hl]
      exact this)
    have HCELL : Hid (∀ w1, RAt w1 rg ag bg cg dg (R.tick i) → (∃ u, w1.cell? ⟨bg, i, none⟩ = some (.int .i64 u)) ∧ w1.frozen? ⟨bg, i, none⟩ = false ∧ w1.cell? ⟨rg, 1, none⟩ = some (.slice (some ⟨bg, 0, none⟩) R.pr.length R.pr.length) ∧ bg < w1.heap.size) := Lib.hid (fun w1 h1 => ⟨⟨_, h1.bcell (i := i) (by rw [tick_len]; exact hi)⟩, h1.bb.f i, by have := h1.br.c 1 _ rfl; rw [tick_len] at this; exact this, h1.bb.l⟩)
    have lpp := h.lp
    have i1 : (i : Int) < (R.pr.length : Int) := by omega
    clear hst h hc
    generalize R.tick i = R1 at *
    generalize (R.pub i n).tick i = R2 at *
    generalize R.pr.length = m at *
    go_enter Try.func38, Try.ntmps38
    go_wp2_with fail
    refine HST.out.mono ?_
    rintro e w1 ⟨rfl, t1, h1⟩
    obtain ⟨⟨u, a⟩, af, c1, cl⟩ := HCELL.out w1 h1
    have rl := h1.br.l
    have HF := Lib.hid (HFIN.out w1 t1 h1)
    clear t1 h1
    go_wp2_with fail
    go_ret
    exact ⟨rfl, HF.out⟩
set_option maxRecDepth 100000 in
set_option maxHeartbeats 2000000 in
theorem r_ann (h : RAt W rg ag bg cg dg R) (p : Int) (x : P7) : Calls Try.prog 35 #[.pointer (some ⟨rg, 0, none⟩), .int .i64 p, aagg x] W fun e W' => e = .returned (.bool (hasB R.pr.length p)) ∧ Touch (RF rg ag bg cg dg) W W' ∧ RAt W' rg ag bg cg dg (if hasB R.pr.length p = true then (R.ann p.toNat x).tick p.toNat else R) := by
  obtain ⟨X, hX⟩ : ∃ X, W.alloc (.cells #[.int .i64 x.s, .int .u8 x.k, .int .i64 x.m, .slice none 0 0, .slice none 0 0] 68) = X := ⟨_, rfl⟩
  obtain ⟨b0, hb0⟩ : ∃ b0, W.heap.size = b0 := ⟨_, rfl⟩
  have hbX : Below W.heap.size W X := by rw [← hX]; exact (Below.refl _ _).alloc (Nat.le_refl _) _
  have p0 : Blk X b0 (acs5 x) := by rw [← hX, ← hb0]; exact Blk.new _ _ _
  have hX0 := h.below hbX
  have n0 : ¬ RF rg ag bg cg dg b0 := fun e => by have := h.foot _ e; omega
  have hst := r_step hX0 p true
  simp only [Bool.and_true] at hst
  cases hc : hasB R.pr.length p with
  | false =>
    rw [hc, if_neg Bool.false_ne_true] at hst
    rw [if_neg Bool.false_ne_true]
    have HST := Lib.hid hst
    have HFIN : Hid (∀ w1, Touch (RF rg ag bg cg dg) X w1 → Touch (RF rg ag bg cg dg) W w1) := Lib.hid (fun w1 t1 => (Touch.of_below hbX (Nat.le_refl _) _).trans t1)
    have HE := Lib.hid (And.intro hX hb0)
    unfold aagg
    clear hst h hc hX0 hbX p0 n0 hX hb0
    go_enter Try.func35, Try.ntmps35
    go_wp2_with fail
    rw [HE.out.1, HE.out.2]
    clear HE
    go_wp2_with fail
    refine HST.out.mono ?_
    rintro e w1 ⟨rfl, t1, h1⟩
    have HF := Lib.hid (And.intro (HFIN.out _ t1) h1)
    clear t1 h1
    go_wp2_with fail
    go_ret
    exact ⟨rfl, HF.out⟩
  | true =>
    rw [hc, if_pos rfl] at hst
    rw [if_pos rfl]
    obtain ⟨i, rfl, hi⟩ := hasB_yes hc
    rw [Int.toNat_natCast] at hst ⊢
    have HST := Lib.hid hst
    have HFIN : Hid (∀ w1, Touch (RF rg ag bg cg dg) X w1 → RAt w1 rg ag bg cg dg (R.tick i) → ∀ Z, Z = (((((w1.setCell ⟨ag, i * 5, none⟩ (.int .i64 x.s)).setCell ⟨ag, i * 5 + 1, none⟩ (.int .u8 x.k)).setCell ⟨ag, i * 5 + 2, none⟩ (.int .i64 x.m)).setCell ⟨ag, i * 5 + 3, none⟩ (.slice none 0 0)).setCell ⟨ag, i * 5 + 4, none⟩ (.slice none 0 0)) → Touch (RF rg ag bg cg dg) W Z.drew ∧ RAt Z.drew rg ag bg cg dg ((R.ann i x).tick i)) := Lib.hid (fun w1 t1 h1 Z hZ => by
      have t0 := (Touch.of_below hbX (Nat.le_refl _) (RF rg ag bg cg dg)).trans t1
      have hs : ∀ {A : World} (j : Nat) (v : Value), Touch (RF rg ag bg cg dg) W A → Touch (RF rg ag bg cg dg) W (A.setCell ⟨ag, j, none⟩ v) := fun j v t => t.setCell _ _ (fun _ => .inr (.inl rfl))
      have hl : i < (R.tick i).pr.length := by rw [tick_len]; exact hi
      have := h1.ann hl x hZ
      rw [ann_tick R hi x] at this
      refine ⟨?_, this.below (below_drew (Below.refl _ _))⟩
      rw [hZ]
      exact (hs _ _ (hs _ _ (hs _ _ (hs _ _ (hs _ _ t0))))).drew)
    have HCELL : Hid (∀ w1, RAt w1 rg ag bg cg dg (R.tick i) → ∃ y : P7, (∀ q v, q < 5 → (acs5 y)[q]? = some v → w1.cell? ⟨ag, i * 5 + q, none⟩ = some v) ∧ (∀ j, w1.frozen? ⟨ag, j, none⟩ = false) ∧ w1.cell? ⟨rg, 0, none⟩ = some (.slice (some ⟨ag, 0, none⟩) R.pr.length R.pr.length) ∧ ag < w1.heap.size) := Lib.hid (fun w1 h1 => ⟨_, h1.acell (i := i) (by rw [tick_len]; exact hi), h1.ba.f, by have := h1.br.c 0 _ rfl; rw [tick_len] at this; exact this, h1.ba.l⟩)
    have lpp := h.lp
    have i1 : (i : Int) < (R.pr.length : Int) := by omega
    have HP0 := Lib.hid p0
    have HN0 := Lib.hid n0
    have HE := Lib.hid (And.intro hX hb0)
    unfold aagg
    clear hst h hc hX0 hbX p0 n0 hX hb0
    generalize R.tick i = R1 at *
    generalize (R.ann i x).tick i = R2 at *
    generalize R.pr.length = m at *
    go_enter Try.func35, Try.ntmps35
    go_wp2_with fail
    rw [HE.out.1, HE.out.2]
    clear HE
    go_wp2_with fail
    refine HST.out.mono ?_
    rintro e w1 ⟨rfl, t1, h1⟩
    obtain ⟨y, ac, af, c1, cl⟩ := HCELL.out w1 h1
    have a0 := ac 0 _ (by decide) rfl
    rw [Nat.add_zero] at a0
    have a1 := ac 1 _ (by decide) rfl
    have a2 := ac 2 _ (by decide) rfl
    have a3 := ac 3 _ (by decide) rfl
    have a4 := ac 4 _ (by decide) rfl
    have f0 := af (i * 5)
    have f1 := af (i * 5 + 1)
    have f2 := af (i * 5 + 2)
    have f3 := af (i * 5 + 3)
    have f4 := af (i * 5 + 4)
    have b1 := HP0.out.touch t1 HN0.out
    have s0 := b1.c 0 _ rfl
    have s1 := b1.c 1 _ rfl
    have s2 := b1.c 2 _ rfl
    have s3 := b1.c 3 _ rfl
    have s4 := b1.c 4 _ rfl
    have rl := h1.br.l
    have bl := b1.l
    have HF := Lib.hid (HFIN.out w1 t1 h1 _ rfl)
    clear t1 h1 b1 ac af
    go_wp2_with fail
    go_region
    go_wp2_with fail
    go_ret
    exact ⟨rfl, HF.out⟩
end
end Go.Proofs.Ythllfeogchbihac
