/- MemOwn: the accesses, and the law's own blocks. -/
import Derived.Test.YthllfeogchbihacMemS
import Derived.Deep.CutBlock
namespace Go.Proofs.Ythllfeogchbihac
open Go.RowKit
set_option linter.unusedSimpArgs false
set_option linter.unusedVariables false
structure OwnS (W : World) (bx g0 g1 : Nat) (cs : List Value) (xs0 xs1 : List Int) : Prop where
  bb : Blk W bx cs
  c0 : ∀ (j : Nat) (u : Int), xs0[j]? = some u → W.cell? ⟨g0, j, none⟩ = some (.int .i64 u)
  l0 : g0 < W.heap.size
  c1 : ∀ (j : Nat) (u : Int), xs1[j]? = some u → W.cell? ⟨g1, j, none⟩ = some (.int .i64 u)
  l1 : g1 < W.heap.size
theorem OwnS.touch {W W' : World} {bx g0 g1 : Nat} {cs : List Value} {xs0 xs1 : List Int} (h : OwnS W bx g0 g1 cs xs0 xs1) {S : Nat → Prop} (t : Touch S W W') (n1 : ¬ S bx) (n2 : ¬ S g0) (n3 : ¬ S g1) : OwnS W' bx g0 g1 cs xs0 xs1 :=
  ⟨h.bb.touch t n1, fun j u hj => (t.cell h.l0 n2).trans (h.c0 j u hj), Nat.lt_of_lt_of_le h.l0 t.size, fun j u hj => (t.cell h.l1 n3).trans (h.c1 j u hj), Nat.lt_of_lt_of_le h.l1 t.size⟩
theorem OwnS.below {W W' : World} {bx g0 g1 : Nat} {cs : List Value} {xs0 xs1 : List Int} (h : OwnS W bx g0 g1 cs xs0 xs1) (hb : Below W.heap.size W W') : OwnS W' bx g0 g1 cs xs0 xs1 :=
  h.touch (Touch.of_below hb (Nat.le_refl _) (fun _ => False)) id id id
theorem own_row {W : World} {base n : Nat} {v : Value} {xs : List Int} (h : W.ownsRow base 3 1 v n (xs.map (.int .i64))) (hn : 0 < n) : ∃ g cap, v = .slice (some ⟨g, 0, none⟩) n cap ∧ base ≤ g ∧ g < W.heap.size ∧ ∀ (j : Nat) (u : Int), xs[j]? = some u → W.cell? ⟨g, j, none⟩ = some (.int .i64 u) := by
  have hl := h.1
  rw [List.length_map] at hl
  rcases h.2 with ⟨rfl, h0⟩ | ⟨g, cap, cur, rfl, hb, hc, r⟩
  · omega
  · refine ⟨g, cap, rfl, hb, (Array.getElem?_eq_some_iff.1 hc).1, fun j u hj => ?_⟩
    have hlt : j < xs.length := by
      rcases Nat.lt_or_ge j xs.length with h | h
      · exact h
      · rw [List.getElem?_eq_none h] at hj; cases hj
    have := World.ownsRow.cellAt h j (by omega)
    rw [this, List.getElem?_map, hj]
    rfl
section
variable {w W : World} {mg : Nat} {M : Me} {K : Nat → Prop} {tp tq : Nat}
theorem own_ann (h : MO w W mg M K) (htp : tp < M.pr.length) (x : P7) : Calls Try.prog 23 #[.pointer (some ⟨mg, 0, none⟩), .int .i64 tp, aagg x] W fun e W' => e = .returned (.bool true) ∧ ∃ M', Acc M M' tp (2 * tp) ∧ MOk w W mg M' K W' := by
  have := annn_at h tp x
  rw [hasB_nat htp, if_pos rfl, Int.toNat_natCast] at this
  refine this.mono ?_
  rintro e W' ⟨rfl, h2⟩
  exact ⟨rfl, _, acc_ann htp x, h2⟩
theorem own_pub (h : MO w W mg M K) (htp : tp < M.pr.length) (n : Int) : Calls Try.prog 24 #[.pointer (some ⟨mg, 0, none⟩), .int .i64 tp, .int .i64 n] W fun e W' => e = .returned (.bool true) ∧ ∃ M', Acc M M' tp (2 * tp + 1) ∧ MOk w W mg M' K W' := by
  have := pubn_at h tp n
  rw [hasB_nat htp, if_pos rfl, Int.toNat_natCast] at this
  refine this.mono ?_
  rintro e W' ⟨rfl, h2⟩
  exact ⟨rfl, _, acc_pub htp n, h2⟩
theorem own_annd (h : MO w W mg M K) (htp : tp < M.pr.length) (htq : tq < M.pr.length) : Calls Try.prog 19 #[.pointer (some ⟨mg, 0, none⟩), .int .i64 tp, .int .i64 tq] W fun e W' => e = .returned (.tuple #[aagg (M.proc tq), .bool true]) ∧ ∃ M', Acc M M' tp (-1) ∧ MOk w W mg M' K W' := by
  have := annd_at h tp tq
  rw [hasB_nat htp, hasB_nat htq, Bool.true_and, if_pos rfl, if_pos rfl, Int.toNat_natCast] at this
  refine this.mono ?_
  rintro e W' ⟨rfl, h2⟩
  exact ⟨rfl, _, acc_read htp, h2⟩
theorem own_publ (h : MO w W mg M K) (htp : tp < M.pr.length) (htq : tq < M.pr.length) : Calls Try.prog 20 #[.pointer (some ⟨mg, 0, none⟩), .int .i64 tp, .int .i64 tq] W fun e W' => e = .returned (.tuple #[.int .i64 (M.proc tq).pos, .bool true]) ∧ ∃ M', Acc M M' tp (-1) ∧ MOk w W mg M' K W' := by
  have := publ_at h tp tq
  rw [hasB_nat htp, hasB_nat htq, Bool.true_and, if_pos rfl, if_pos rfl, Int.toNat_natCast] at this
  refine this.mono ?_
  rintro e W' ⟨rfl, h2⟩
  exact ⟨rfl, _, acc_read htp, h2⟩
theorem own_slot (h : MO w W mg M K) (htp : tp < M.pr.length) (htq : tq < M.sl.length) : Calls Try.prog 21 #[.pointer (some ⟨mg, 0, none⟩), .int .i64 tp, .int .i64 tq] W fun e W' => e = .returned (.tuple #[sagg (M.slot tq), .bool true]) ∧ ∃ M', Acc M M' tp (-1) ∧ MOk w W mg M' K W' := by
  have := slot_at h tp tq
  rw [hasB_nat htp, hasB_nat htq, Bool.true_and, if_pos rfl, if_pos rfl, Int.toNat_natCast] at this
  refine this.mono ?_
  rintro e W' ⟨rfl, h2⟩
  exact ⟨rfl, _, acc_read htp, h2⟩
theorem own_swap (h : MO w W mg M K) (htp : tp < M.pr.length) (htq : tq < M.sl.length) (old next : S7) : Calls Try.prog 10 #[.pointer (some ⟨mg, 0, none⟩), .int .i64 tp, .int .i64 tq, sagg old, sagg next] W fun e W' => e = .returned (.tuple #[.bool ((M.slot tq).i == old.i), .bool true]) ∧ ∃ M', Acc M M' tp (2 * M.pr.length + tq) ∧ MOk w W mg M' K W' := by
  refine (swap_at h tp tq old next).mono ?_
  rintro e W' ⟨rfl, h2⟩
  refine ⟨?_, _, acc_swap htp htq old next, h2⟩
  have e1 : swapB M tp tq old = ((M.slot tq).i == old.i) := by
    unfold swapB
    rw [own_is htp htq, Bool.true_and]
    by_cases hx : (M.slot tq).i = old.i
    · rw [decide_eq_true hx, hx]; simp
    · rw [decide_eq_false hx, beq_eq_false_iff_ne.2 hx]
  rw [e1, own_is htp htq]
  rfl
theorem own_snap (h : MO w W mg M K) (htp : tp < M.pr.length) : Calls Try.prog 12 #[.pointer (some ⟨mg, 0, none⟩), .int .i64 tp] W fun e W' => e = .returned (.tuple #[nagg M.sn, .bool true]) ∧ ∃ M', Acc M M' tp (-1) ∧ MOk w W mg M' K W' := by
  have := snap_at h tp
  rw [hasB_nat htp, if_pos rfl, if_pos rfl, Int.toNat_natCast] at this
  refine this.mono ?_
  rintro e W' ⟨rfl, h2⟩
  exact ⟨rfl, _, acc_read htp, h2⟩
theorem own_swaps (h : MO w W mg M K) (htp : tp < M.pr.length) (old : Int) (x : N7) : Calls Try.prog 11 #[.pointer (some ⟨mg, 0, none⟩), .int .i64 tp, .int .i64 old, nagg x] W fun e W' => (∃ b, e = .returned (.tuple #[.bool b, .bool true])) ∧ ∃ M', Acc M M' tp (-1) ∧ MOk w W mg M' K W' := by
  refine (swaps_at h tp old x).mono ?_
  rintro e W' ⟨rfl, h2⟩
  refine ⟨⟨hasB M.pr.length tp && decide (M.sn.i = old), ?_⟩, _, acc_swaps htp old x, h2⟩
  rw [hasB_nat htp]; rfl
end
/-- The law's own blocks stay. -/
def OwnK (bx g0 g1 : Nat) : Nat → Prop := fun b => b = bx ∨ b = g0 ∨ b = g1
/-- Behind an access: the law's blocks are as they were. -/
def OwnR (w : World) (mg bx g0 g1 : Nat) (cs : List Value) (M : Me) (tp : Nat) (z : Int) (W : World) : Prop := ∃ M', Acc M M' tp z ∧ MO w W mg M' (OwnK bx g0 g1) ∧ OwnS W bx g0 g1 cs (looks M) (M.pr.map (·.st))
theorem own_r {w W W' : World} {mg bx g0 g1 : Nat} {cs : List Value} {M M' : Me} {tp : Nat} {z : Int} (ha : Acc M M' tp z) (h : MOk w W mg M' (OwnK bx g0 g1) W') (hs : OwnS W bx g0 g1 cs (looks M) (M.pr.map (·.st))) : OwnR w mg bx g0 g1 cs M tp z W' :=
  ⟨M', ha, h.1, hs.touch h.2 (fun e => e (.inl rfl)) (fun e => e (.inr (.inl rfl))) (fun e => e (.inr (.inr rfl)))⟩
theorem OwnR.below {w W W' : World} {mg bx g0 g1 : Nat} {cs : List Value} {M : Me} {tp : Nat} {z : Int} (h : OwnR w mg bx g0 g1 cs M tp z W) (hb : Below W.heap.size W W') : OwnR w mg bx g0 g1 cs M tp z W' := by
  obtain ⟨M', h1, h2, h3⟩ := h
  exact ⟨M', h1, h2.below hb, h3.below hb⟩
theorem OwnR.s {w W : World} {mg bx g0 g1 : Nat} {cs : List Value} {M : Me} {tp : Nat} {z : Int} (h : OwnR w mg bx g0 g1 cs M tp z W) : OwnS W bx g0 g1 cs (looks M) (M.pr.map (·.st)) := by
  obtain ⟨M', h1, h2, h3⟩ := h
  exact h3
end Go.Proofs.Ythllfeogchbihac
