/- MemPlays: both memories side by side. -/
import Derived.Test.YthllfeogchbihacMemRn
namespace Go.Proofs.Ythllfeogchbihac
open Go.RowKit
set_option linter.unusedSimpArgs false
set_option linter.unusedVariables false
def SnB (x : N7) : Nat → Prop := fun b => ∃ a : Addr, x.A = some a ∧ a.block = b
def PS (M R : Me) (K : Nat → List Value → Prop) : Nat → Prop := fun b => SnB M.sn b ∨ SnB R.sn b ∨ ∃ vs, K b vs
theorem SqAt.touch {W W' : World} {A : Option Addr} {n : Nat} {xs : List Int} (h : SqAt W A n xs) {S : Nat → Prop} (t : Touch S W W') (hs : ∀ a : Addr, A = some a → ¬ S a.block) : SqAt W' A n xs := by
  refine ⟨h.1, h.2.1, fun j u hj => ?_⟩
  obtain ⟨g, e, hg, hc⟩ := h.2.2 j u hj
  exact ⟨g, e, Nat.lt_of_lt_of_le hg t.size, (t.cell hg (hs _ e)).trans hc⟩
/-- The program's memory and the document's, both with what they hold; K: blocks that stay. -/
structure PO (w W : World) (mg rg : Nat) (M R : Me) (xs ys : List Int) (K : Nat → List Value → Prop) : Prop where
  ex : ∃ ag bg cg dg, MO w W mg M (fun b => RF rg ag bg cg dg b ∨ PS M R K b) ∧ RAt W rg ag bg cg dg R ∧ (∀ b, RF rg ag bg cg dg b → w.heap.size ≤ b) ∧ (∀ b, PS M R K b → ¬ RF rg ag bg cg dg b)
  sq : SqAt W M.sn.A M.sn.n xs
  rq : SqAt W R.sn.A R.sn.n ys
  kb : ∀ b vs, K b vs → Blk W b vs
section
variable {w W : World} {mg rg : Nat} {M R : Me} {xs ys : List Int} {K : Nat → List Value → Prop}
theorem PO.bw (h : PO w W mg rg M R xs ys K) : Below w.heap.size w W := by
  obtain ⟨⟨ag, bg, cg, dg, h1, -⟩, -⟩ := h
  exact h1.bw
theorem PO.below (h : PO w W mg rg M R xs ys K) {W' : World} (hb : Below W.heap.size W W') : PO w W' mg rg M R xs ys K := by
  obtain ⟨⟨ag, bg, cg, dg, h1, h2, h3, h4⟩, h5, h6, h7⟩ := h
  have t := Touch.of_below hb (Nat.le_refl _) (fun _ => False)
  exact ⟨⟨ag, bg, cg, dg, h1.below hb, h2.below hb, h3, h4⟩, h5.touch t (fun _ _ e => e), h6.touch t (fun _ _ e => e), fun b vs hk => (h7 b vs hk).below hb⟩
theorem PO.less (h : PO w W mg rg M R xs ys K) {K' : Nat → List Value → Prop} (hk : ∀ b vs, K' b vs → K b vs) : PO w W mg rg M R xs ys K' := by
  obtain ⟨⟨ag, bg, cg, dg, h1, h2, h3, h4⟩, h5, h6, h7⟩ := h
  have hs : ∀ b, PS M R K' b → PS M R K b := by
    rintro b (e | e | ⟨vs, e⟩)
    · exact .inl e
    · exact .inr (.inl e)
    · exact .inr (.inr ⟨vs, hk b vs e⟩)
  refine ⟨⟨ag, bg, cg, dg, h1.less ?_, h2, h3, fun b e => h4 b (hs b e)⟩, h5, h6, fun b vs e => h7 b vs (hk b vs e)⟩
  rintro b (e | e)
  · exact .inl e
  · exact .inr (hs b e)
theorem PO.grow (h : PO w W mg rg M R xs ys K) {W' : World} (hb : Below W.heap.size W W') {K' : Nat → List Value → Prop} (hk : ∀ b vs, K' b vs → K b vs ∨ (W.heap.size ≤ b ∧ Blk W' b vs)) : PO w W' mg rg M R xs ys K' := by
  have hB := h.below hb
  obtain ⟨⟨ag, bg, cg, dg, h1, h2, h3, h4⟩, h5, h6, h7⟩ := h
  have t := Touch.of_below hb (Nat.le_refl _) (fun _ => False)
  refine ⟨⟨ag, bg, cg, dg, h1.grow hb ?_, h2.below hb, h3, ?_⟩, hB.sq, hB.rq, ?_⟩
  · rintro b (e | e | e | ⟨vs, e⟩)
    · exact .inl (.inl e)
    · exact .inl (.inr (.inl e))
    · exact .inl (.inr (.inr (.inl e)))
    · rcases hk b vs e with e | ⟨e, e2⟩
      · exact .inl (.inr (.inr (.inr ⟨vs, e⟩)))
      · exact .inr ⟨e, e2.l⟩
  · rintro b (e | e | ⟨vs, e⟩)
    · exact h4 b (.inl e)
    · exact h4 b (.inr (.inl e))
    · rcases hk b vs e with e | ⟨e, e2⟩
      · exact h4 b (.inr (.inr ⟨vs, e⟩))
      · intro e3
        have := h2.foot b e3
        omega
  · intro b vs e
    rcases hk b vs e with e | ⟨e, e2⟩
    · exact hB.kb b vs e
    · exact e2
/-- An access of the program's. -/
theorem PO.prog (h : PO w W mg rg M R xs ys K) : ∃ Kx, MO w W mg M Kx ∧ ∀ M' W' xs', MOk w W mg M' Kx W' → ((M'.sn = M.sn ∧ xs' = xs) ∨ (SqAt W M'.sn.A M'.sn.n xs' ∧ ∀ b, SnB M'.sn b → ∃ vs, K b vs)) → PO w W' mg rg M' R xs' ys K := by
  obtain ⟨⟨ag, bg, cg, dg, h1, h2, h3, h4⟩, h5, h6, h7⟩ := h
  refine ⟨_, h1, fun M' W' xs' hm hs => ?_⟩
  have t := hm.2
  have hps : ∀ b, PS M' R K b → PS M R K b := by
    rintro b (e | e | e)
    · rcases hs with ⟨e1, -⟩ | ⟨-, e1⟩
      · rw [e1] at e; exact .inl e
      · exact .inr (.inr (e1 b e))
    · exact .inr (.inl e)
    · exact .inr (.inr e)
  refine ⟨⟨ag, bg, cg, dg, hm.1.less ?_, h2.touch t (fun b e n => n (.inl e)), h3, fun b e => h4 b (hps b e)⟩, ?_, h6.touch t (fun a e n => n (.inr (.inr (.inl ⟨a, e, rfl⟩)))), fun b vs e => (h7 b vs e).touch t (fun n => n (.inr (.inr (.inr ⟨vs, e⟩))))⟩
  · rintro b (e | e)
    · exact .inl e
    · exact .inr (hps b e)
  · rcases hs with ⟨e1, rfl⟩ | ⟨e1, e2⟩
    · rw [e1]
      exact h5.touch t (fun a e n => n (.inr (.inl ⟨a, e, rfl⟩)))
    · exact e1.touch t (fun a e n => n (.inr (.inr (.inr (e2 _ ⟨a, e, rfl⟩)))))
/-- An access of the document's. -/
theorem PO.ref (h : PO w W mg rg M R xs ys K) : ∃ ag bg cg dg, RAt W rg ag bg cg dg R ∧ ∀ R' W' ys', Touch (RF rg ag bg cg dg) W W' → RAt W' rg ag bg cg dg R' → ((R'.sn = R.sn ∧ ys' = ys) ∨ (SqAt W R'.sn.A R'.sn.n ys' ∧ ∀ b, SnB R'.sn b → ∃ vs, K b vs)) → PO w W' mg rg M R' xs ys' K := by
  obtain ⟨⟨ag, bg, cg, dg, h1, h2, h3, h4⟩, h5, h6, h7⟩ := h
  refine ⟨ag, bg, cg, dg, h2, fun R' W' ys' t hr hs => ?_⟩
  have hps : ∀ b, PS M R' K b → PS M R K b := by
    rintro b (e | e | e)
    · exact .inl e
    · rcases hs with ⟨e1, -⟩ | ⟨-, e1⟩
      · rw [e1] at e; exact .inr (.inl e)
      · exact .inr (.inr (e1 b e))
    · exact .inr (.inr e)
  have hno : ∀ b, PS M R K b → ¬ RF rg ag bg cg dg b := h4
  obtain ⟨⟨pg, sg, g0, g1, g2, g3⟩, k1, k2⟩ := h1
  refine ⟨⟨ag, bg, cg, dg, ⟨⟨pg, sg, g0.touch t (fun b e n => (g3 b (.inl n)).2 e), g1, g2, ?_⟩, k1.trans (t.below k1.size h3), k2⟩, hr, h3, fun b e => h4 b (hps b e)⟩, h5.touch t (fun a e n => hno _ (.inl ⟨a, e, rfl⟩) n), ?_, fun b vs e => (h7 b vs e).touch t (fun n => hno b (.inr (.inr ⟨vs, e⟩)) n)⟩
  · rintro b (e | e)
    · exact ⟨Nat.lt_of_lt_of_le (g3 b (.inl e)).1 t.size, (g3 b (.inl e)).2⟩
    · exact ⟨Nat.lt_of_lt_of_le (g3 b (.inr (hps b e))).1 t.size, (g3 b (.inr (hps b e))).2⟩
  · rcases hs with ⟨e1, rfl⟩ | ⟨e1, e2⟩
    · rw [e1]
      exact h6.touch t (fun a e n => hno _ (.inr (.inl ⟨a, e, rfl⟩)) n)
    · exact e1.touch t (fun a e n => hno _ (.inr (.inr (e2 _ ⟨a, e, rfl⟩))) n)

/-! Each access. -/
def annM (M : Me) (p : Int) (x : P7) : Me := if hasB M.pr.length p = true then (M.ann p.toNat x).tick p.toNat else M
def pubM (M : Me) (p n : Int) : Me := if hasB M.pr.length p = true then (M.pub p.toNat n).tick p.toNat else M
def tickM (M : Me) (p : Int) (b : Bool) : Me := if (hasB M.pr.length p && b) = true then M.tick p.toNat else M
theorem pm_ann (h : PO w W mg rg M R xs ys K) (p : Int) (x : P7) : Calls Try.prog 23 #[.pointer (some ⟨mg, 0, none⟩), .int .i64 p, aagg x] W fun e W' => e = .returned (.bool (hasB M.pr.length p)) ∧ PO w W' mg rg (annM M p x) R xs ys K := by
  obtain ⟨Kx, h1, h2⟩ := h.prog
  refine (annn_at h1 p x).mono ?_
  rintro e W' ⟨rfl, h3⟩
  refine ⟨rfl, h2 _ W' xs h3 (.inl ⟨?_, rfl⟩)⟩
  unfold annM; split <;> rfl
theorem pr_ann (h : PO w W mg rg M R xs ys K) (p : Int) (x : P7) : Calls Try.prog 35 #[.pointer (some ⟨rg, 0, none⟩), .int .i64 p, aagg x] W fun e W' => e = .returned (.bool (hasB R.pr.length p)) ∧ PO w W' mg rg M (annM R p x) xs ys K := by
  obtain ⟨ag, bg, cg, dg, h1, h2⟩ := h.ref
  refine (r_ann h1 p x).mono ?_
  rintro e W' ⟨rfl, h3, h4⟩
  refine ⟨rfl, h2 _ W' ys h3 h4 (.inl ⟨?_, rfl⟩)⟩
  unfold annM; split <;> rfl
theorem pm_pub (h : PO w W mg rg M R xs ys K) (p : Int) (n : Int) : Calls Try.prog 24 #[.pointer (some ⟨mg, 0, none⟩), .int .i64 p, .int .i64 n] W fun e W' => e = .returned (.bool (hasB M.pr.length p)) ∧ PO w W' mg rg (pubM M p n) R xs ys K := by
  obtain ⟨Kx, h1, h2⟩ := h.prog
  refine (pubn_at h1 p n).mono ?_
  rintro e W' ⟨rfl, h3⟩
  refine ⟨rfl, h2 _ W' xs h3 (.inl ⟨?_, rfl⟩)⟩
  unfold pubM; split <;> rfl
theorem pr_pub (h : PO w W mg rg M R xs ys K) (p : Int) (n : Int) : Calls Try.prog 38 #[.pointer (some ⟨rg, 0, none⟩), .int .i64 p, .int .i64 n] W fun e W' => e = .returned (.bool (hasB R.pr.length p)) ∧ PO w W' mg rg M (pubM R p n) xs ys K := by
  obtain ⟨ag, bg, cg, dg, h1, h2⟩ := h.ref
  refine (r_pub h1 p n).mono ?_
  rintro e W' ⟨rfl, h3, h4⟩
  refine ⟨rfl, h2 _ W' ys h3 h4 (.inl ⟨?_, rfl⟩)⟩
  unfold pubM; split <;> rfl
theorem pm_annd (h : PO w W mg rg M R xs ys K) (p : Int) (q : Int) : Calls Try.prog 19 #[.pointer (some ⟨mg, 0, none⟩), .int .i64 p, .int .i64 q] W fun e W' => e = .returned (.tuple #[aagg (if (hasB M.pr.length p && hasB M.pr.length q) = true then M.proc q else zp), .bool (hasB M.pr.length p && hasB M.pr.length q)]) ∧ PO w W' mg rg (tickM M p (hasB M.pr.length q)) R xs ys K := by
  obtain ⟨Kx, h1, h2⟩ := h.prog
  refine (annd_at h1 p q).mono ?_
  rintro e W' ⟨rfl, h3⟩
  refine ⟨rfl, h2 _ W' xs h3 (.inl ⟨?_, rfl⟩)⟩
  unfold tickM; split <;> rfl
theorem pr_annd (h : PO w W mg rg M R xs ys K) (p : Int) (q : Int) : Calls Try.prog 36 #[.pointer (some ⟨rg, 0, none⟩), .int .i64 p, .int .i64 q] W fun e W' => e = .returned (.tuple #[aagg (if (hasB R.pr.length p && hasB R.pr.length q) = true then R.proc q else zp), .bool (hasB R.pr.length p && hasB R.pr.length q)]) ∧ PO w W' mg rg M (tickM R p (hasB R.pr.length q)) xs ys K := by
  obtain ⟨ag, bg, cg, dg, h1, h2⟩ := h.ref
  refine (r_annd h1 p q).mono ?_
  rintro e W' ⟨rfl, h3, h4⟩
  refine ⟨rfl, h2 _ W' ys h3 h4 (.inl ⟨?_, rfl⟩)⟩
  unfold tickM; split <;> rfl
theorem pm_publ (h : PO w W mg rg M R xs ys K) (p : Int) (q : Int) : Calls Try.prog 20 #[.pointer (some ⟨mg, 0, none⟩), .int .i64 p, .int .i64 q] W fun e W' => e = .returned (.tuple #[.int .i64 (if (hasB M.pr.length p && hasB M.pr.length q) = true then (M.proc q).pos else 0), .bool (hasB M.pr.length p && hasB M.pr.length q)]) ∧ PO w W' mg rg (tickM M p (hasB M.pr.length q)) R xs ys K := by
  obtain ⟨Kx, h1, h2⟩ := h.prog
  refine (publ_at h1 p q).mono ?_
  rintro e W' ⟨rfl, h3⟩
  refine ⟨rfl, h2 _ W' xs h3 (.inl ⟨?_, rfl⟩)⟩
  unfold tickM; split <;> rfl
theorem pr_publ (h : PO w W mg rg M R xs ys K) (p : Int) (q : Int) : Calls Try.prog 39 #[.pointer (some ⟨rg, 0, none⟩), .int .i64 p, .int .i64 q] W fun e W' => e = .returned (.tuple #[.int .i64 (if (hasB R.pr.length p && hasB R.pr.length q) = true then (R.proc q).pos else 0), .bool (hasB R.pr.length p && hasB R.pr.length q)]) ∧ PO w W' mg rg M (tickM R p (hasB R.pr.length q)) xs ys K := by
  obtain ⟨ag, bg, cg, dg, h1, h2⟩ := h.ref
  refine (r_publ h1 p q).mono ?_
  rintro e W' ⟨rfl, h3, h4⟩
  refine ⟨rfl, h2 _ W' ys h3 h4 (.inl ⟨?_, rfl⟩)⟩
  unfold tickM; split <;> rfl
theorem pm_slot (h : PO w W mg rg M R xs ys K) (p : Int) (q : Int) : Calls Try.prog 21 #[.pointer (some ⟨mg, 0, none⟩), .int .i64 p, .int .i64 q] W fun e W' => e = .returned (.tuple #[sagg (if (hasB M.pr.length p && hasB M.sl.length q) = true then M.slot q else zs), .bool (hasB M.pr.length p && hasB M.sl.length q)]) ∧ PO w W' mg rg (tickM M p (hasB M.sl.length q)) R xs ys K := by
  obtain ⟨Kx, h1, h2⟩ := h.prog
  refine (slot_at h1 p q).mono ?_
  rintro e W' ⟨rfl, h3⟩
  refine ⟨rfl, h2 _ W' xs h3 (.inl ⟨?_, rfl⟩)⟩
  unfold tickM; split <;> rfl
theorem pr_slot (h : PO w W mg rg M R xs ys K) (p : Int) (q : Int) : Calls Try.prog 40 #[.pointer (some ⟨rg, 0, none⟩), .int .i64 p, .int .i64 q] W fun e W' => e = .returned (.tuple #[sagg (if (hasB R.pr.length p && hasB R.sl.length q) = true then R.slot q else zs), .bool (hasB R.pr.length p && hasB R.sl.length q)]) ∧ PO w W' mg rg M (tickM R p (hasB R.sl.length q)) xs ys K := by
  obtain ⟨ag, bg, cg, dg, h1, h2⟩ := h.ref
  refine (r_slot h1 p q).mono ?_
  rintro e W' ⟨rfl, h3, h4⟩
  refine ⟨rfl, h2 _ W' ys h3 h4 (.inl ⟨?_, rfl⟩)⟩
  unfold tickM; split <;> rfl
theorem pm_swap (h : PO w W mg rg M R xs ys K) (p : Int) (q : Int) (old next : S7) : Calls Try.prog 10 #[.pointer (some ⟨mg, 0, none⟩), .int .i64 p, .int .i64 q, sagg old, sagg next] W fun e W' => e = .returned (bool2 (swapB M p q old) (swapIs M p q)) ∧ PO w W' mg rg (swapM M p q old next) R xs ys K := by
  obtain ⟨Kx, h1, h2⟩ := h.prog
  refine (swap_at h1 p q old next).mono ?_
  rintro e W' ⟨rfl, h3⟩
  refine ⟨rfl, h2 _ W' xs h3 (.inl ⟨?_, rfl⟩)⟩
  unfold swapM; split
  · split <;> rfl
  · rfl
theorem pr_swap (h : PO w W mg rg M R xs ys K) (p : Int) (q : Int) (old next : S7) : Calls Try.prog 42 #[.pointer (some ⟨rg, 0, none⟩), .int .i64 p, .int .i64 q, sagg old, sagg next] W fun e W' => e = .returned (bool2 (swapB R p q old) (swapIs R p q)) ∧ PO w W' mg rg M (swapM R p q old next) xs ys K := by
  obtain ⟨ag, bg, cg, dg, h1, h2⟩ := h.ref
  refine (r_swap h1 p q old next).mono ?_
  rintro e W' ⟨rfl, h3, h4⟩
  refine ⟨rfl, h2 _ W' ys h3 h4 (.inl ⟨?_, rfl⟩)⟩
  unfold swapM; split
  · split <;> rfl
  · rfl
theorem pm_snap (h : PO w W mg rg M R xs ys K) (p : Int)  : Calls Try.prog 12 #[.pointer (some ⟨mg, 0, none⟩), .int .i64 p] W fun e W' => e = .returned (.tuple #[nagg (if hasB M.pr.length p = true then M.sn else zn), .bool (hasB M.pr.length p)]) ∧ PO w W' mg rg (if hasB M.pr.length p = true then M.tick p.toNat else M) R xs ys K := by
  obtain ⟨Kx, h1, h2⟩ := h.prog
  refine (snap_at h1 p).mono ?_
  rintro e W' ⟨rfl, h3⟩
  refine ⟨rfl, h2 _ W' xs h3 (.inl ⟨?_, rfl⟩)⟩
  split <;> rfl
theorem pr_snap (h : PO w W mg rg M R xs ys K) (p : Int)  : Calls Try.prog 43 #[.pointer (some ⟨rg, 0, none⟩), .int .i64 p] W fun e W' => e = .returned (.tuple #[nagg (if hasB R.pr.length p = true then R.sn else zn), .bool (hasB R.pr.length p)]) ∧ PO w W' mg rg M (if hasB R.pr.length p = true then R.tick p.toNat else R) xs ys K := by
  obtain ⟨ag, bg, cg, dg, h1, h2⟩ := h.ref
  refine (r_snap h1 p).mono ?_
  rintro e W' ⟨rfl, h3, h4⟩
  refine ⟨rfl, h2 _ W' ys h3 h4 (.inl ⟨?_, rfl⟩)⟩
  split <;> rfl
theorem swaps_sn (M : Me) (p old : Int) (x : N7) : (swapsM M p old x).sn = if hasB M.pr.length p && decide (M.sn.i = old) then x else M.sn := by
  unfold swapsM
  cases hasB M.pr.length p with
  | false => rfl
  | true =>
    rw [if_pos rfl, Bool.true_and]
    by_cases h : M.sn.i = old
    · rw [if_pos h, if_pos (decide_eq_true h)]; rfl
    · rw [if_neg h, if_neg (by rw [decide_eq_false h]; decide)]; rfl
theorem pm_swaps (h : PO w W mg rg M R xs ys K) (p old : Int) (x : N7) {zs' : List Int} (hx : SqAt W x.A x.n zs') (hk : ∀ b, SnB x b → ∃ vs, K b vs) : Calls Try.prog 11 #[.pointer (some ⟨mg, 0, none⟩), .int .i64 p, .int .i64 old, nagg x] W fun e W' => e = .returned (bool2 (hasB M.pr.length p && decide (M.sn.i = old)) (hasB M.pr.length p)) ∧ PO w W' mg rg (swapsM M p old x) R (if hasB M.pr.length p && decide (M.sn.i = old) then zs' else xs) ys K := by
  obtain ⟨Kx, h1, h2⟩ := h.prog
  refine (swaps_at h1 p old x).mono ?_
  rintro e W' ⟨rfl, h3⟩
  refine ⟨rfl, h2 _ W' _ h3 ?_⟩
  rw [swaps_sn]
  cases hasB M.pr.length p && decide (M.sn.i = old) with
  | false => exact .inl ⟨rfl, rfl⟩
  | true => exact .inr ⟨hx, hk⟩
theorem pr_swaps (h : PO w W mg rg M R xs ys K) (p old : Int) (x : N7) {zs' : List Int} (hx : SqAt W x.A x.n zs') (hk : ∀ b, SnB x b → ∃ vs, K b vs) : Calls Try.prog 45 #[.pointer (some ⟨rg, 0, none⟩), .int .i64 p, .int .i64 old, nagg x] W fun e W' => e = .returned (bool2 (hasB R.pr.length p && decide (R.sn.i = old)) (hasB R.pr.length p)) ∧ PO w W' mg rg M (swapsM R p old x) xs (if hasB R.pr.length p && decide (R.sn.i = old) then zs' else ys) K := by
  obtain ⟨ag, bg, cg, dg, h1, h2⟩ := h.ref
  refine (r_swaps h1 p old x).mono ?_
  rintro e W' ⟨rfl, h3, h4⟩
  refine ⟨rfl, h2 _ W' _ h3 h4 ?_⟩
  rw [swaps_sn]
  cases hasB R.pr.length p && decide (R.sn.i = old) with
  | false => exact .inl ⟨rfl, rfl⟩
  | true => exact .inr ⟨hx, hk⟩
end
/-- Both tell the same. -/
def EqR (M R : Me) : Prop := M.pr = R.pr ∧ M.sl = R.sl ∧ M.sn.i = R.sn.i
section
variable {M R : Me}
theorem EqR.proc (h : EqR M R) (p : Int) : M.proc p = R.proc p := by unfold Me.proc; rw [h.1]
theorem EqR.slot (h : EqR M R) (p : Int) : M.slot p = R.slot p := by unfold Me.slot; rw [h.2.1]
theorem EqR.tick (h : EqR M R) (i : Nat) : EqR (M.tick i) (R.tick i) := by
  refine ⟨?_, h.2.1, h.2.2⟩
  show M.pr.set i _ = R.pr.set i _
  rw [h.proc, h.1]
theorem EqR.ann (h : EqR M R) (p : Int) (x : P7) : EqR (annM M p x) (annM R p x) := by
  unfold annM
  rw [h.1]
  split
  · refine EqR.tick (M := M.ann p.toNat x) (R := R.ann p.toNat x) ⟨?_, h.2.1, h.2.2⟩ _
    show M.pr.set _ _ = R.pr.set _ _
    rw [h.proc, h.1]
  · exact h
theorem EqR.pub (h : EqR M R) (p n : Int) : EqR (pubM M p n) (pubM R p n) := by
  unfold pubM
  rw [h.1]
  split
  · refine EqR.tick (M := M.pub p.toNat n) (R := R.pub p.toNat n) ⟨?_, h.2.1, h.2.2⟩ _
    show M.pr.set _ _ = R.pr.set _ _
    rw [h.proc, h.1]
  · exact h
theorem EqR.tickM (h : EqR M R) (p : Int) (b : Bool) : EqR (tickM M p b) (tickM R p b) := by
  unfold Ythllfeogchbihac.tickM
  rw [h.1]
  split
  · exact h.tick _
  · exact h
theorem EqR.swap (h : EqR M R) (p q : Int) (old next : S7) : EqR (swapM M p q old next) (swapM R p q old next) := by
  unfold swapM swapIs
  rw [h.1, h.2.1, h.slot]
  split
  · refine EqR.tick ?_ _
    split
    · refine ⟨h.1, ?_, h.2.2⟩
      show M.sl.set _ _ = R.sl.set _ _
      rw [h.2.1]
    · exact h
  · exact h
theorem EqR.swapB (h : EqR M R) (p q : Int) (old : S7) : swapB M p q old = swapB R p q old := by
  unfold Ythllfeogchbihac.swapB swapIs
  rw [h.1, h.2.1, h.slot]
theorem EqR.swapIs (h : EqR M R) (p q : Int) : swapIs M p q = swapIs R p q := by
  unfold Ythllfeogchbihac.swapIs
  rw [h.1, h.2.1]
theorem EqR.swaps (h : EqR M R) (p old : Int) (x y : N7) (hi : x.i = y.i) : EqR (swapsM M p old x) (swapsM R p old y) := by
  unfold swapsM
  rw [h.1, h.2.2]
  split
  · refine EqR.tick ?_ _
    split
    · exact ⟨h.1, h.2.1, hi⟩
    · exact h
  · exact h
end
end Go.Proofs.Ythllfeogchbihac
