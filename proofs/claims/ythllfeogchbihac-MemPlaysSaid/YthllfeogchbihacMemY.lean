/- MemPlays: the document's swaps. -/
import Derived.Test.YthllfeogchbihacMemX
namespace Go.Proofs.Ythllfeogchbihac
open Go.RowKit
set_option linter.unusedSimpArgs false
set_option linter.unusedVariables false
section
variable {W : World} {rg ag bg cg dg : Nat} {R : Me}
theorem rbox2 (W : World) (old next : S7) : ∃ X b0 b1, (W.alloc (.cells #[.int .i64 old.i, .int .i64 old.p, .int .i64 old.s, .int .u8 old.k, .int .i64 old.m, .slice none 0 0, .slice none 0 0] 47)).alloc (.cells #[.int .i64 next.i, .int .i64 next.p, .int .i64 next.s, .int .u8 next.k, .int .i64 next.m, .slice none 0 0, .slice none 0 0] 47) = X ∧ W.heap.size = b0 ∧ W.heap.size + 1 = b1 ∧ Below W.heap.size W X ∧ Blk X b0 old.cs ∧ Blk X b1 next.cs := by
  refine ⟨_, _, _, rfl, rfl, rfl, ((Below.refl _ _).alloc (Nat.le_refl _) _).alloc (by simp) _, (Blk.new W #[.int .i64 old.i, .int .i64 old.p, .int .i64 old.s, .int .u8 old.k, .int .i64 old.m, .slice none 0 0, .slice none 0 0] 47).alloc _, ?_⟩
  have := Blk.new (W.alloc (.cells #[.int .i64 old.i, .int .i64 old.p, .int .i64 old.s, .int .u8 old.k, .int .i64 old.m, .slice none 0 0, .slice none 0 0] 47)) #[.int .i64 next.i, .int .i64 next.p, .int .i64 next.s, .int .u8 next.k, .int .i64 next.m, .slice none 0 0, .slice none 0 0] 47
  simpa [S7.cs] using this
set_option maxRecDepth 100000 in
set_option maxHeartbeats 2000000 in
theorem r_swap (h : RAt W rg ag bg cg dg R) (p a : Int) (old next : S7) : Calls Try.prog 42 #[.pointer (some ⟨rg, 0, none⟩), .int .i64 p, .int .i64 a, sagg old, sagg next] W fun e W' => e = .returned (bool2 (swapB R p a old) (swapIs R p a)) ∧ Touch (RF rg ag bg cg dg) W W' ∧ RAt W' rg ag bg cg dg (swapM R p a old next) := by
  obtain ⟨X, b0, b1, hX, hb0, hb1, hbX, p0, p1⟩ := rbox2 W old next
  have hX0 := h.below hbX
  have n0 : ¬ RF rg ag bg cg dg b0 := fun e => by have := h.foot _ e; omega
  have n1 : ¬ RF rg ag bg cg dg b1 := fun e => by have := h.foot _ e; omega
  have H46 := Lib.hid (r_place hX0 a)
  have hst := r_step hX0 p (hasB R.sl.length a)
  cases hc : swapIs R p a with
  | false =>
    have e8 : swapB R p a old = false := by unfold swapB; rw [hc]; rfl
    have e9 : swapM R p a old next = R := by unfold swapM; rw [hc]; rfl
    rw [e8, e9]
    unfold swapIs at hc
    rw [hc, if_neg Bool.false_ne_true] at hst
    have HST := Lib.hid hst
    have HFIN : Hid (∀ w1, Touch (RF rg ag bg cg dg) X w1 → Touch (RF rg ag bg cg dg) W w1) := Lib.hid (fun w1 t1 => (Touch.of_below hbX (Nat.le_refl _) _).trans t1)
    have HE := Lib.hid (And.intro hX (And.intro hb0 hb1))
    unfold sagg bool2
    clear hst h hc hX0 hbX p0 p1 n0 n1 hX hb0 hb1 e8 e9
    go_enter Try.func42, Try.ntmps42
    go_wp2_with fail
    rw [HE.out.1, HE.out.2.2, HE.out.2.1]
    clear HE
    go_wp2_with fail
    refine H46.out.mono ?_
    rintro e wq ⟨rfl, rfl⟩
    go_wp2_with fail
    refine HST.out.mono ?_
    rintro e w1 ⟨rfl, t1, h1⟩
    have HF := Lib.hid (And.intro (HFIN.out _ t1) h1)
    clear t1 h1
    go_wp2_with fail
    go_ret2
    exact ⟨rfl, HF.out⟩
  | true =>
    have hc2 := hc
    unfold swapIs at hc2
    rw [hc2, if_pos rfl] at hst
    rw [Bool.and_eq_true] at hc2
    obtain ⟨i, rfl, hi⟩ := hasB_yes hc2.1
    obtain ⟨j, rfl, hj⟩ := hasB_yes hc2.2
    clear hc2
    rw [Int.toNat_natCast] at hst
    have HST := Lib.hid hst
    obtain ⟨x, hx⟩ : ∃ x, R.slot (j : Int) = x := ⟨_, rfl⟩
    have e8 : swapB R i j old = decide (x.i = old.i) := by unfold swapB; rw [hc, Bool.true_and, hx]
    have e9 : swapM R i j old next = (if x.i = old.i then R.put j next else R).tick i := by unfold swapM; rw [if_pos hc, hx, Int.toNat_natCast, Int.toNat_natCast]
    rw [e8, e9]
    have HCELL : Hid (∀ w1, RAt w1 rg ag bg cg dg (R.tick i) → (∀ q v, q < 7 → x.cs[q]? = some v → w1.cell? ⟨dg, j * 7 + q, none⟩ = some v) ∧ (∀ j, w1.frozen? ⟨dg, j, none⟩ = false) ∧ w1.cell? ⟨rg, 3, none⟩ = some (.slice (some ⟨dg, 0, none⟩) R.sl.length R.sl.length) ∧ dg < w1.heap.size) := Lib.hid (fun w1 h1 => by
      have e : (R.tick i).sl[j]'hj = x := by rw [← hx, Me.slot_yes hj]; rfl
      have a := fun q v hq hv => h1.dcell (i := j) hj q v hq (by rw [e]; exact hv)
      exact ⟨a, h1.bd.f, h1.br.c 3 _ rfl, h1.bd.l⟩)
    have HT0 : Hid (∀ w1, Touch (RF rg ag bg cg dg) X w1 → Touch (RF rg ag bg cg dg) W w1) := Lib.hid (fun w1 t1 => (Touch.of_below hbX (Nat.le_refl _) _).trans t1)
    have HFIN : Hid (∀ w1, Touch (RF rg ag bg cg dg) X w1 → RAt w1 rg ag bg cg dg (R.tick i) → ∀ Z, Z = (((((((w1.setCell ⟨dg, j * 7, none⟩ (.int .i64 next.i)).setCell ⟨dg, j * 7 + 1, none⟩ (.int .i64 next.p)).setCell ⟨dg, j * 7 + 2, none⟩ (.int .i64 next.s)).setCell ⟨dg, j * 7 + 3, none⟩ (.int .u8 next.k)).setCell ⟨dg, j * 7 + 4, none⟩ (.int .i64 next.m)).setCell ⟨dg, j * 7 + 5, none⟩ (.slice none 0 0)).setCell ⟨dg, j * 7 + 6, none⟩ (.slice none 0 0)) → Touch (RF rg ag bg cg dg) W Z.drew.drew ∧ RAt Z.drew.drew rg ag bg cg dg ((R.put j next).tick i)) := Lib.hid (fun w1 t1 h1 Z hZ => by
      have t0 := HT0.out _ t1
      have hs : ∀ {A : World} (j : Nat) (v : Value), Touch (RF rg ag bg cg dg) W A → Touch (RF rg ag bg cg dg) W (A.setCell ⟨dg, j, none⟩ v) := fun j v t => t.setCell _ _ (fun _ => .inr (.inr (.inr (.inr rfl))))
      have := h1.put (i := j) hj next hZ
      refine ⟨?_, this.below (below_drew (below_drew (Below.refl _ _)))⟩
      rw [hZ]
      exact (hs _ _ (hs _ _ (hs _ _ (hs _ _ (hs _ _ (hs _ _ (hs _ _ t0))))))).drew.drew)
    have lss := h.ls
    have i1 : (j : Int) < (R.sl.length : Int) := by omega
    have HP0 := Lib.hid (And.intro p0 p1)
    have HN0 := Lib.hid (And.intro n0 n1)
    have HE := Lib.hid (And.intro hX (And.intro hb0 hb1))
    have hone : (R.put j next).tick i = (R.put j next).tick i := rfl
    unfold sagg bool2
    clear hst h hc hX0 hbX p0 p1 n0 n1 hX hb0 hb1 e8 e9 hx hone
    by_cases hq : x.i = old.i
    · have hq1 : (x.i != old.i) = false := by rw [hq]; simp
      have hq2 : (x.i == old.i) = true := beq_iff_eq.2 hq
      rw [if_pos hq, decide_eq_true hq]
      clear hq
      generalize R.tick i = R1 at *
      generalize (R.put j next).tick i = R2 at *
      generalize R.pr.length = n at *
      generalize R.sl.length = n' at *
      go_enter Try.func42, Try.ntmps42
      go_wp2_with fail
      rw [HE.out.1, HE.out.2.2, HE.out.2.1]
      clear HE
      go_wp2_with fail
      refine H46.out.mono ?_
      rintro e wq ⟨rfl, rfl⟩
      go_wp2_with fail
      refine HST.out.mono ?_
      rintro e w1 ⟨rfl, t1, h1⟩
      obtain ⟨ac, af, c1, cl⟩ := HCELL.out w1 h1
      have a0 := ac 0 _ (by decide) rfl
      rw [Nat.add_zero] at a0
      have f0 := af (j * 7)
      have a1 := ac 1 _ (by decide) rfl
      have f1 := af (j * 7 + 1)
      have a2 := ac 2 _ (by decide) rfl
      have f2 := af (j * 7 + 2)
      have a3 := ac 3 _ (by decide) rfl
      have f3 := af (j * 7 + 3)
      have a4 := ac 4 _ (by decide) rfl
      have f4 := af (j * 7 + 4)
      have a5 := ac 5 _ (by decide) rfl
      have f5 := af (j * 7 + 5)
      have a6 := ac 6 _ (by decide) rfl
      have f6 := af (j * 7 + 6)
      have q0 := HP0.out.1.touch t1 HN0.out.1
      have q1 := HP0.out.2.touch t1 HN0.out.2
      have o0 := q0.c 0 _ rfl
      have s0 := q1.c 0 _ rfl
      have s1 := q1.c 1 _ rfl
      have s2 := q1.c 2 _ rfl
      have s3 := q1.c 3 _ rfl
      have s4 := q1.c 4 _ rfl
      have s5 := q1.c 5 _ rfl
      have s6 := q1.c 6 _ rfl
      have rl := h1.br.l
      have bl0 := q0.l
      have bl1 := q1.l
      have HF := Lib.hid (HFIN.out w1 t1 h1 _ rfl)
      clear t1 h1 q0 q1 ac af
      go_wp2_with fail
      go_region
      go_wp2_with fail
      go_region
      go_wp2_with fail
      go_ret2
      exact ⟨rfl, HF.out⟩
    · have hq1 : (x.i != old.i) = true := by rw [bne_iff_ne]; exact hq
      have hq2 : (x.i == old.i) = false := by rw [beq_eq_false_iff_ne]; exact hq
      rw [if_neg hq, decide_eq_false hq]
      clear hq
      generalize R.tick i = R1 at *
      generalize R.pr.length = n at *
      generalize R.sl.length = n' at *
      go_enter Try.func42, Try.ntmps42
      go_wp2_with fail
      rw [HE.out.1, HE.out.2.2, HE.out.2.1]
      clear HE
      go_wp2_with fail
      refine H46.out.mono ?_
      rintro e wq ⟨rfl, rfl⟩
      go_wp2_with fail
      refine HST.out.mono ?_
      rintro e w1 ⟨rfl, t1, h1⟩
      obtain ⟨ac, af, c1, cl⟩ := HCELL.out w1 h1
      have a0 := ac 0 _ (by decide) rfl
      rw [Nat.add_zero] at a0
      have q0 := HP0.out.1.touch t1 HN0.out.1
      have o0 := q0.c 0 _ rfl
      have rl := h1.br.l
      have bl0 := q0.l
      have HF := Lib.hid (And.intro (HT0.out _ t1).drew (h1.below (below_drew (Below.refl _ _))))
      clear t1 h1 q0 ac af
      go_wp2_with fail
      go_region
      go_wp2_with fail
      go_ret2
      exact ⟨rfl, HF.out⟩
set_option maxRecDepth 100000 in
set_option maxHeartbeats 2000000 in
theorem r_swaps (h : RAt W rg ag bg cg dg R) (p old : Int) (x : N7) : Calls Try.prog 45 #[.pointer (some ⟨rg, 0, none⟩), .int .i64 p, .int .i64 old, nagg x] W fun e W' => e = .returned (bool2 (hasB R.pr.length p && decide (R.sn.i = old)) (hasB R.pr.length p)) ∧ Touch (RF rg ag bg cg dg) W W' ∧ RAt W' rg ag bg cg dg (swapsM R p old x) := by
  obtain ⟨X, hX⟩ : ∃ X, W.alloc (.cells #[.int .i64 x.i, .slice none 0 0, .slice none 0 0, .slice none 0 0, .int .i64 0, .slice none 0 0, .slice x.A x.n x.c] 50) = X := ⟨_, rfl⟩
  obtain ⟨b0, hb0⟩ : ∃ b0, W.heap.size = b0 := ⟨_, rfl⟩
  have hbX : Below W.heap.size W X := by rw [← hX]; exact (Below.refl _ _).alloc (Nat.le_refl _) _
  have p0 : Blk X b0 x.cs := by rw [← hX, ← hb0]; exact Blk.new _ _ _
  have hX0 := h.below hbX
  have n0 : ¬ RF rg ag bg cg dg b0 := fun e => by have := h.foot _ e; omega
  have hst := r_step hX0 p true
  simp only [Bool.and_true] at hst
  have HT0 : Hid (∀ w1, Touch (RF rg ag bg cg dg) X w1 → Touch (RF rg ag bg cg dg) W w1) := Lib.hid (fun w1 t1 => (Touch.of_below hbX (Nat.le_refl _) _).trans t1)
  have HE := Lib.hid (And.intro hX hb0)
  have HP0 := Lib.hid p0
  have HN0 := Lib.hid n0
  clear hX hb0 p0 n0 hX0 hbX
  cases hc : hasB R.pr.length p with
  | false =>
    have e9 : swapsM R p old x = R := by unfold swapsM; rw [hc]; rfl
    rw [e9, Bool.false_and]
    rw [hc, if_neg Bool.false_ne_true] at hst
    have HST := Lib.hid hst
    unfold nagg bool2
    clear hst h hc e9
    go_enter Try.func45, Try.ntmps45
    go_wp2_with fail
    rw [HE.out.1, HE.out.2]
    clear HE
    go_wp2_with fail
    refine HST.out.mono ?_
    rintro e w1 ⟨rfl, t1, h1⟩
    have HF := Lib.hid (And.intro (HT0.out _ t1) h1)
    clear t1 h1
    go_wp2_with fail
    go_ret2
    exact ⟨rfl, HF.out⟩
  | true =>
    obtain ⟨i, rfl, hi⟩ := hasB_yes hc
    rw [hc, if_pos rfl, Int.toNat_natCast] at hst
    have HST := Lib.hid hst
    obtain ⟨y, hy⟩ : ∃ y, R.sn = y := ⟨_, rfl⟩
    have e9 : swapsM R i old x = (if y.i = old then R.swp x else R).tick i := by unfold swapsM; rw [if_pos hc, hy, Int.toNat_natCast]
    rw [e9, Bool.true_and, hy]
    have HCELL : Hid (∀ w1, RAt w1 rg ag bg cg dg (R.tick i) → (∀ q v, y.cs[q]? = some v → w1.cell? ⟨rg, q + 4, none⟩ = some v) ∧ (∀ j, w1.frozen? ⟨rg, j, none⟩ = false)) := Lib.hid (fun w1 h1 => by
      have e : (R.tick i).sn = y := hy
      have a := fun j v hv => h1.br.c j v hv
      rw [e] at a
      exact ⟨fun q v hv => a (q + 4) v (by simpa using hv), h1.br.f⟩)
    have HFIN : Hid (∀ w1, Touch (RF rg ag bg cg dg) X w1 → RAt w1 rg ag bg cg dg (R.tick i) → ∀ Z, Z = (((((((w1.setCell ⟨rg, 4, none⟩ (.int .i64 x.i)).setCell ⟨rg, 5, none⟩ (.slice none 0 0)).setCell ⟨rg, 6, none⟩ (.slice none 0 0)).setCell ⟨rg, 7, none⟩ (.slice none 0 0)).setCell ⟨rg, 8, none⟩ (.int .i64 0)).setCell ⟨rg, 9, none⟩ (.slice none 0 0)).setCell ⟨rg, 10, none⟩ (.slice x.A x.n x.c)) → Touch (RF rg ag bg cg dg) W Z ∧ RAt Z rg ag bg cg dg ((R.swp x).tick i)) := Lib.hid (fun w1 t1 h1 Z hZ => by
      have t0 := HT0.out _ t1
      have hs : ∀ {A : World} (j : Nat) (v : Value), Touch (RF rg ag bg cg dg) W A → Touch (RF rg ag bg cg dg) W (A.setCell ⟨rg, j, none⟩ v) := fun j v t => t.setCell _ _ (fun _ => .inl rfl)
      have := h1.swp x hZ
      refine ⟨?_, this⟩
      rw [hZ]
      exact hs _ _ (hs _ _ (hs _ _ (hs _ _ (hs _ _ (hs _ _ (hs _ _ t0)))))))
    unfold nagg bool2
    clear hst h hc e9 hy
    by_cases hq : y.i = old
    · have hq1 : (y.i != old) = false := by rw [hq]; simp
      have hq2 : (y.i == old) = true := beq_iff_eq.2 hq
      rw [if_pos hq, decide_eq_true hq]
      clear hq
      generalize R.tick i = R1 at *
      generalize (R.swp x).tick i = R2 at *
      generalize R.pr.length = n at *
      go_enter Try.func45, Try.ntmps45
      go_wp2_with fail
      rw [HE.out.1, HE.out.2]
      clear HE
      go_wp2_with fail
      refine HST.out.mono ?_
      rintro e w1 ⟨rfl, t1, h1⟩
      obtain ⟨ac, af⟩ := HCELL.out w1 h1
      have a0 := ac 0 _ rfl
      have f0 := af 4
      have a1 := ac 1 _ rfl
      have f1 := af 5
      have a2 := ac 2 _ rfl
      have f2 := af 6
      have a3 := ac 3 _ rfl
      have f3 := af 7
      have a4 := ac 4 _ rfl
      have f4 := af 8
      have a5 := ac 5 _ rfl
      have f5 := af 9
      have a6 := ac 6 _ rfl
      have f6 := af 10
      have q0 := HP0.out.touch t1 HN0.out
      have s0 := q0.c 0 _ rfl
      have s1 := q0.c 1 _ rfl
      have s2 := q0.c 2 _ rfl
      have s3 := q0.c 3 _ rfl
      have s4 := q0.c 4 _ rfl
      have s5 := q0.c 5 _ rfl
      have s6 := q0.c 6 _ rfl
      have rl := h1.br.l
      have bl0 := q0.l
      have HF := Lib.hid (HFIN.out w1 t1 h1 _ rfl)
      clear t1 h1 q0 ac af
      go_wp2_with fail
      go_ret2
      exact ⟨rfl, HF.out⟩
    · have hq1 : (y.i != old) = true := by rw [bne_iff_ne]; exact hq
      have hq2 : (y.i == old) = false := by rw [beq_eq_false_iff_ne]; exact hq
      rw [if_neg hq, decide_eq_false hq]
      clear hq
      generalize R.tick i = R1 at *
      generalize R.pr.length = n at *
      go_enter Try.func45, Try.ntmps45
      go_wp2_with fail
      rw [HE.out.1, HE.out.2]
      clear HE
      go_wp2_with fail
      refine HST.out.mono ?_
      rintro e w1 ⟨rfl, t1, h1⟩
      obtain ⟨ac, af⟩ := HCELL.out w1 h1
      have a0 := ac 0 _ rfl
      have rl := h1.br.l
      have HF := Lib.hid (And.intro (HT0.out _ t1) h1)
      clear t1 h1 ac af
      go_wp2_with fail
      go_ret2
      exact ⟨rfl, HF.out⟩
end
end Go.Proofs.Ythllfeogchbihac
